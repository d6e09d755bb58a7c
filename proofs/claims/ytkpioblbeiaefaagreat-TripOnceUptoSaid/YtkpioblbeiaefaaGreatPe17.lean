/- Part 17 of the lemmas below the statements of this seat: AbsSortF, SortFLay, SortRoad, Roads, GrA, IndexRoad, GrB. -/
import Derived.Test.YtkpioblbeiaefaaGreatPe15
import Derived.Shelf.SlSortCmp.NoneTotal
set_option linter.unusedSectionVars false
set_option linter.unusedVariables false
set_option linter.unusedSimpArgs false
set_option linter.unnecessarySimpa false
set_option maxRecDepth 100000
section
section
namespace Go.Abs
open Go Go.Proofs Go.Shelf Go.RowKit Go.Lib Go.Sort
structure Ut {β:Type} (k:Nat)(enc:β→List AV)(encV:β→List Value):Prop where
 pos:0<k
 len: ∀x,(enc x).length=k
 lenV: ∀x,(encV x).length=k
 one: ∀x,∀v∈encV x,v.oneCell'=true
 rel: ∀x (c:Nat) y,(enc x)[c]? =some y→ ∃u,(encV x)[c]? =some u∧(∀J O w,aJ J O w y u)∧ ∀J O w v,aJ J O w y v→v=u
theorem PU {P:Program} {ρ:Ren} {gl:aM} {h:ae} (L:SlLaysF0.n6 P ρ) {β:Type} (k:Nat)(aE: ∀w,(isAgg (ρ.t 24)).run P w= .ok true w)(zE: ∀w,(Go.sizeOf (ρ.t 24)).run P w= .ok k w)(enc:β→List AV)(encV:β→List Value)(hE:Ut k enc encV)
  (key:β→Int) (g:Nat) (eg: ∀args w,(callFunc g args).run P w= .ok (.enter g args) w) (rows:List β)
  (hcmp: ∀x∈rows,∀y∈rows,∀W,Calls P g #[.agg (encV x).toArray,.agg (encV y).toArray] W fun e w'=>e= .returned (.int .i64 (key x - key y))∧ ∃q os',w'=grow (W.drewN q) os')
  (hnd:(rows.map key).Nodup) (hl:rows.length<4611686018427387904) {lo:Nat} {x:AV} (hx:Ls k lo h x (rows.map enc)):
  aa P gl (ρ.f 6) [x,.fn (.func g) [] []] h fun v h'=>v= .tup []∧Ls k lo h' x ((rows.mergeSort fun a b=>decide (key a≤key b)).map enc)∧h'.length=h.length∧ ∀(b:Nat) (o:bU),h[b]? =some o→(∀off len,x≠ .own b off len)→h'[b]? =some o:=by
 refine⟨?_,fun J w vs hh hv=> ?_⟩
 ·obtain⟨nm,hn,hf⟩:=L.f6;exact⟨_,hf,rfl,hn⟩
 ·obtain⟨hvl,hvr⟩:=hv
  match vs,hvl with
  | [v,vf],_=>
   have hr:=hvr 0 _ v rfl rfl;have hrf:=hvr 1 _ vf rfl rfl;have hvf:vf= .func (.func g) #[] #[]:=by
    cases hrf with
    | fn _ _ _ a c h1 h2 _ _=>
     obtain rfl:=List.length_eq_zero_iff.1 h1.symm;obtain rfl:=List.length_eq_zero_iff.1 h2.symm;rfl
   subst hvf;by_cases h0:rows=[]
   ·subst h0;obtain⟨base,cap,hv0⟩: ∃base cap,v= .slice base 0 cap:=by
     rcases hx.1 with⟨rfl,_⟩ | ⟨b,rfl,_⟩
     ·cases hr;exact⟨none,0,rfl⟩
     ·cases hr with
      | own _ _ _ k a cap _ _ _ _=>exact⟨some a,cap,rfl⟩
    subst hv0;refine Calls.mono' (AnyF.slices_SortFunc_none L base cap (.func (.func g) #[] #[]) w) ?_;rintro e w' ⟨rfl,rfl⟩;exact⟨.tup [],_,J,h,rfl,hh,.tup [] [] rfl (by simp),ik.refl _ _ _,rfl,by simpa using hx,rfl,fun _ _ ho _=>ho⟩
   ·have hpos:0<rows.length:=List.length_pos_iff.2 h0;rcases hx.1 with⟨_,he⟩ | ⟨b,rfl,hlb,hb⟩
    ·simp at he;exact absurd he h0
    cases hr with
    | own _ _ _ kb a cap hk ha hle hcap=>
     rw [List.length_map] at hle;have ha':=ha (by omega);subst ha';obtain⟨o1,o2,o3,o4,vs0,T,o5,o6,o7⟩:=hh.obj b kb _ hk hb;have hkn:kb.n=k:=o1;obtain⟨x0,hx0⟩: ∃x0,x0∈rows:=List.exists_mem_of_ne_nil _ h0
     let α:= {x:β // x∈rows}
     haveI:Inhabited α:=⟨⟨x0,hx0⟩⟩;have hmul: ∀i c,i<rows.length→c<k→i*k+c<rows.length*k:=fun i c hi hc=>by
      have:(i+1)*k≤rows.length*k:=Nat.mul_le_mul_right k hi;rw [Nat.add_mul,Nat.one_mul] at this;omega
     have cellv: ∀(i c:Nat) (s:β),rows[i]? =some s→c<k→vs0[kb.base+(i*k+c)]? =some (encV s)[c]! :=fun i c s hs hc=>by
      have hcl:c<(enc s).length:=by rw [hE.len];exact hc
      have hy:(enc s)[c]? =some ((enc s)[c]):=zB hcl;obtain⟨u,p1,p2,p3⟩:=o7 i (enc s) c _ (by rw [List.getElem?_map,hs];rfl) hy;obtain⟨u',q1,q2,q3⟩:=hE.rel s c _ hy;have e1:=q3 _ _ _ _ p3;subst e1;rw [hkn] at p1;rw [p1,List.getElem!_eq_getElem?_getD,q1];rfl
     have hd:(rows.attach.toArray:Array α).size=rows.length:=by simp
     have hat: ∀i,i<rows.length→ ∃s,rows[i]? =some s∧((rows.attach.toArray:Array α)[i]!).1=s:=fun i hi=>by
      refine⟨rows[i],zB hi,?_⟩;rw [getElem!_pos _ i (by rw [hd];exact hi)];simp
     let encA:α→List Value:=fun x=>encV x.1
     have hH:HoldsK encA k w kb.r (kb.base+0*kb.n) (rows.attach.toArray:Array α):=fun t ht=>by
      rw [size_flatK,hd] at ht;rw [get_flatK _ _ _ _ (by rw [hd];exact ht)];have hi:t / k<rows.length:=(Nat.div_lt_iff_lt_mul hE.pos).2 ht;obtain⟨s,hs,hs'⟩:=hat (t / k) hi;have hc:t % k<k:=Nat.mod_lt _ hE.pos;refine⟨?_,by simp [World.frozen?,o5]⟩;rw [cell_of_heap o5,Nat.zero_mul,Nat.add_zero];have:=cellv (t / k) (t % k) s hs hc;rw [Nat.mul_comm,Nat.div_add_mod] at this;rw [this];show _=some ((encV ((rows.attach.toArray:Array α)[t / k]!).1)[t % k]!);rw [hs']
     have hswo:SWO (ltOf fun x y:α=>key x.1 - key y.1):=by
      refine⟨fun x=> ?_,fun x y z h1 h2=> ?_,fun x y z h1 h2=> ?_⟩ <;> simp only [ltOf,decide_eq_true_eq,decide_eq_false_iff_not] at* <;> omega
     have hT: ∀x y:α,(ltOf fun x y:α=>key x.1 - key y.1) x y=false→(ltOf fun x y:α=>key x.1 - key y.1) y x=false→x=y:=by
      rintro⟨x,hx⟩ ⟨y,hy⟩ h1 h2;simp only [ltOf,decide_eq_false_iff_not] at h1 h2;have hk:key x=key y:=by omega
      obtain⟨i,hi⟩:=List.getElem?_of_mem hx;obtain⟨j,hj⟩:=List.getElem?_of_mem hy;have e:i=j:=by
       have a1:(rows.map key)[i]? =some (key x):=by rw [List.getElem?_map,hi];rfl
       have a2:(rows.map key)[j]? =some (key x):=by rw [List.getElem?_map,hj,hk];rfl
       exact xk hnd a1 a2
      subst e;rw [hi] at hj;exact Subtype.ext (Option.some.inj hj)
     have hlays:CmpLays P g #[] encA k (fun x y:α=>key x.1 - key y.1) kb.r (kb.base+0*kb.n) (rows.attach.toArray:Array α).size w:=fun m os dk hdk x y=>hcmp x.1 x.2 y.1 y.2 _;have hcall:=AnyQ.slices_SortFunc_total L k aE zE encA (fun x=>hE.lenV x.1) (fun x=>hE.one x.1) (fun x y:α=>key x.1 - key y.1) hswo g #[] kb.r (kb.base+0*kb.n) cap (rows.attach.toArray:Array α) w eg hlays hH (hh.lt b kb hk) (by rw [hd];exact hl) hT;rw [hd] at hcall;rw [List.length_map] at*;refine Calls.mono' hcall ?_;rintro e w' ⟨rfl,n,os,rfl⟩;obtain⟨srt,hsrt⟩: ∃srt,srt=rows.mergeSort fun a b=>decide (key a≤key b):=⟨_,rfl⟩;obtain⟨dl,hdl⟩: ∃dl:List α,dl=rows.attach.mergeSort fun x y=> !(ltOf (fun x y:α=>key x.1 - key y.1) y x):=⟨_,rfl⟩;have hmap:dl.map Subtype.val=srt:=by
      rw [hdl,hsrt,List.map_mergeSort (r:=fun x y:α=> !(ltOf (fun x y:α=>key x.1 - key y.1) y x)) (s:=fun a b=>decide (key a≤key b)),List.attach_map_subtype_val];intro a _ b _;simp only [ltOf];by_cases h:key a.1≤key b.1
      ·rw [decide_eq_true h,decide_eq_false (by omega)];rfl
      ·rw [decide_eq_false h,decide_eq_true (by omega)];rfl
     have hdll:dl.length=rows.length:=by rw [hdl,List.length_mergeSort,List.length_attach]
     have hsl:srt.length=rows.length:=by rw [hsrt,List.length_mergeSort]
     rw [show (rows.attach.toArray:Array α).toList=rows.attach by simp,←hdl,←hsrt];have hw1:(putRowK encA k (Sort.ahead w n) kb.r (kb.base+0*kb.n) dl.toArray).heap[kb.r]? =some (.cells (Sort.putCells id (kb.base+0*kb.n) (flatK encA k dl.toArray) vs0) T (0,0)):=by
      show (w.heap.modify kb.r _)[kb.r]? =_;rw [Array.getElem?_modify,if_pos rfl,o5];rfl
     have keyr:=hh.set (w':=putRowK encA k (Sort.ahead w n) kb.r (kb.base+0*kb.n) dl.toArray) (.cells k (srt.map enc)) hk hb (by simp) (by show (w.heap.modify kb.r _).size=_;rw [Array.size_modify]) (fun r hr=>by
       show (w.heap.modify kb.r _)[r]? =_;rw [Array.getElem?_modify,if_neg (Ne.symm hr)]) rfl rfl rfl (fun O' hm=>by
      refine⟨hkn,by omega,by rw [List.length_map,hsl];simpa using o3,fun i e he=> ?_,_,T,hw1,?_,fun i e c y he hy=> ?_⟩
      ·obtain⟨s,_,rfl⟩:=List.mem_map.1 (zF he);rw [hE.len,hkn]
      ·rw [Sort.putCells,Array.size_mapIdx];exact o6
      ·rw [List.getElem?_map,Option.map_eq_some_iff] at he;obtain⟨s,hs,rfl⟩:=he;have hil:=(zA.1 hs).1;have hc:c<k:=by rw [←hE.len s];exact (zA.1 hy).1
       obtain⟨u,q1,q2,q3⟩:=hE.rel s c y hy;refine⟨u,?_,hE.one s u (zF q1),q2 _ _ _⟩;have hlt:=hmul i c (by omega) hc;obtain⟨s0,hs0,_⟩:=hat i (by omega);rw [Sort.putCells,Array.getElem?_mapIdx,hkn,cellv i c s0 hs0 hc,Option.map_some,size_flatK,if_pos (by simp [hdll];exact hlt)];have e1:kb.base+(i*k+c) - (kb.base+0*k)=i*k+c:=by omega
       rw [e1,get_flatK _ _ _ _ (by simp [hdll];exact hlt)];have e2:(i*k+c) / k=i:=by rw [Nat.mul_comm,Nat.mul_add_div hE.pos,Nat.div_eq_of_lt hc,Nat.add_zero]
       have e3:(i*k+c) % k=c:=by rw [Nat.mul_comm,Nat.mul_add_mod,Nat.mod_eq_of_lt hc]
       rw [e2,e3];show some (id ((encV (dl.toArray[i]!).1)[c]!))=some u;have e4:(dl.toArray[i]!).1=s:=by
        rw [getElem!_pos dl.toArray i (by simp;omega)];have:=hs;rw [←hmap,List.getElem?_map,Option.map_eq_some_iff] at this;obtain⟨z,hz,rfl⟩:=this;simp only [List.getElem_toArray];rw [(zA.1 hz).2]
       rw [e4,List.getElem!_eq_getElem?_getD,q1];rfl)
     obtain⟨r1,ev1⟩:=keyr;obtain⟨r2,ev2⟩:=GU r1 os;refine⟨.tup [],_,J,_,rfl,r2,.tup [] [] rfl (by simp),ev1.trans ev2,rfl,?_,by simp,fun b' o' ho hne=> ?_⟩
     ·refine Ls.own (zI (zA.1 hb).1) hlb (by simp [hsl]) fun e he=> ?_;obtain⟨s,_,rfl⟩:=List.mem_map.1 he;exact hE.len s
     ·rw [zJ (by rintro rfl;exact hne _ _ rfl)];exact ho
end Go.Abs
end
section
namespace Go.Abs
open Go Go.Proofs Go.Shelf Go.RowKit Go.Lib Go.Sort
end Go.Abs
end
end
section
namespace Go.Proofs.YtkpioblbeiaefaaGreat
open Go Go.Abs Go.Shelf Go.Proofs
def xz:Ren:=⟨fun | 6=>199 | 15=>122 | 14=>206 | 28=>159 | 29=>160 | 20=>207 | 21=>208 | 22=>209 | 23=>210 | 24=>211 | 25=>212 | 26=>213 | 27=>214 | 46=>215 | 47=>175 | 48=>176 | 49=>216 | 50=>217 | 57=>218 | n=>n,fun | 22=>225 | 24=>228 | 25=>248 | 3=>3 | 39=>160 | 0=>0 | 53=>198 | 55=>200 | 4=>4 | 46=>191 | 45=>190 | 50=>195 | 5=>5 | 9=>9 | 66=>213 | 70=>217 | 76=>234 | 77=>235 | n=>n,fun n=>n⟩
theorem Kv:SlLaysF0.n6 Tryz.prog xz:= {
 mixed:=by kernel_rfl,
 f6:=⟨Tryz.f199.name,by decide,Tryz.func199.trans (congrArg some (by kernel_rfl))⟩,
 f14:=⟨Tryz.f206.name,by decide,Tryz.func206.trans (congrArg some (by kernel_rfl))⟩,
 f15:=Tryz.func122.trans (congrArg some (by kernel_rfl)),
 f20:=⟨Tryz.f207.name,by decide,Tryz.func207.trans (congrArg some (by kernel_rfl))⟩,
 f21:=⟨Tryz.f208.name,by decide,Tryz.func208.trans (congrArg some (by kernel_rfl))⟩,
 f22:=⟨Tryz.f209.name,by decide,Tryz.func209.trans (congrArg some (by kernel_rfl))⟩,
 f23:=⟨Tryz.f210.name,by decide,Tryz.func210.trans (congrArg some (by kernel_rfl))⟩,
 f24:=⟨Tryz.f211.name,by decide,Tryz.func211.trans (congrArg some (by kernel_rfl))⟩,
 f25:=⟨Tryz.f212.name,by decide,Tryz.func212.trans (congrArg some (by kernel_rfl))⟩,
 f26:=⟨Tryz.f213.name,by decide,Tryz.func213.trans (congrArg some (by kernel_rfl))⟩,
 f27:=⟨Tryz.f214.name,by decide,Tryz.func214.trans (congrArg some (by kernel_rfl))⟩,
 f28:=Tryz.func159.trans (congrArg some (by kernel_rfl)),
 f29:=Tryz.func160.trans (congrArg some (by kernel_rfl)),
 f46:=⟨Tryz.f215.name,by decide,Tryz.func215.trans (congrArg some (by kernel_rfl))⟩,
 f47:=Tryz.func175.trans (congrArg some (by kernel_rfl)),
 f48:=Tryz.func176.trans (congrArg some (by kernel_rfl)),
 f49:=⟨Tryz.f216.name,by decide,Tryz.func216.trans (congrArg some (by kernel_rfl))⟩,
 f50:=⟨Tryz.f217.name,by decide,Tryz.func217.trans (congrArg some (by kernel_rfl))⟩,
 f57:=⟨Tryz.f218.name,by decide,Tryz.func218.trans (congrArg some (by kernel_rfl))⟩,
 t0:=Tryz.underlying0,
 a0:=Tryz.isAgg0,
 z0:=Tryz.sizeOf0,
 v0:=Tryz.zeroValue0,
 t3:=Tryz.underlying3,
 a3:=Tryz.isAgg3,
 z3:=Tryz.sizeOf3,
 v3:=Tryz.zeroValue3,
 t4:=Tryz.underlying4,
 a4:=Tryz.isAgg4,
 z4:=Tryz.sizeOf4,
 v4:=Tryz.zeroValue4,
 t5:=Tryz.underlying5,
 a5:=Tryz.isAgg5,
 z5:=Tryz.sizeOf5,
 v5:=Tryz.zeroValue5,
 t9:=Tryz.underlying9,
 a9:=Tryz.isAgg9,
 z9:=Tryz.sizeOf9,
 v9:=Tryz.zeroValue9,
 t22:=Tryz.underlying225,
 a22:=Tryz.isAgg225,
 z22:=Tryz.sizeOf225,
 v22:=Tryz.zeroValue225,
 t25:=Tryz.underlying248,
 a25:=Tryz.isAgg248,
 z25:=Tryz.sizeOf248,
 v25:=Tryz.zeroValue248,
 t39:=Tryz.underlying160,
 a39:=Tryz.isAgg160,
 z39:=Tryz.sizeOf160,
 v39:=Tryz.zeroValue160,
 t45:=Tryz.underlying190,
 a45:=Tryz.isAgg190,
 z45:=Tryz.sizeOf190,
 v45:=Tryz.zeroValue190,
 t46:=Tryz.underlying191,
 a46:=Tryz.isAgg191,
 z46:=Tryz.sizeOf191,
 v46:=Tryz.zeroValue191,
 t50:=Tryz.underlying195,
 a50:=Tryz.isAgg195,
 z50:=Tryz.sizeOf195,
 v50:=Tryz.zeroValue195,
 t53:=Tryz.underlying198,
 a53:=Tryz.isAgg198,
 z53:=Tryz.sizeOf198,
 v53:=Tryz.zeroValue198,
 t55:=Tryz.underlying200,
 a55:=Tryz.isAgg200,
 z55:=Tryz.sizeOf200,
 v55:=Tryz.zeroValue200,
 t66:=Tryz.underlying213,
 a66:=Tryz.isAgg213,
 z66:=Tryz.sizeOf213,
 v66:=Tryz.zeroValue213,
 t70:=Tryz.underlying217,
 a70:=Tryz.isAgg217,
 z70:=Tryz.sizeOf217,
 v70:=Tryz.zeroValue217,
 t76:=Tryz.underlying234,
 a76:=Tryz.isAgg234,
 z76:=Tryz.sizeOf234,
 v76:=Tryz.zeroValue234,
 t77:=Tryz.underlying235,
 a77:=Tryz.isAgg235,
 z77:=Tryz.sizeOf235,
 v77:=Tryz.zeroValue235
}
theorem Nt: ∀w,(isAgg (xz.t 24)).run Tryz.prog w= .ok true w:=Tryz.isAgg228
theorem Kw: ∀w,(Go.sizeOf (xz.t 24)).run Tryz.prog w= .ok 3 w:=Tryz.sizeOf228
end Go.Proofs.YtkpioblbeiaefaaGreat
end
section
namespace Go.Proofs
open Go.Shelf Go.RowKit Go.Lib Go.Sort Go.Toll Go.Abs
def YtkpioblbeiaefaaGreat.encRoadV (r:je):List Value:=[.int .i64 r.to,.int .i64 r.min,.int .i64 r.max]
theorem YtkpioblbeiaefaaGreat.encV_road:Ut 3 bA YtkpioblbeiaefaaGreat.encRoadV:=by
 refine⟨by omega,fun _=>rfl,fun _=>rfl,fun x v hv=> ?_,fun x c y hy=> ?_⟩
 ·simp [YtkpioblbeiaefaaGreat.encRoadV] at hv;rcases hv with rfl | rfl | rfl <;> rfl
 ·have key: ∀n:Int,(∀J O w,aJ J O w (.int .i64 n) (.int .i64 n))∧ ∀J O w v,aJ J O w (.int .i64 n) v→v= .int .i64 n:=fun n=>⟨fun J O w=> .int _ _,fun J O w v h=>by cases h;rfl⟩
  match c,hy with
  | 0,hy=>simp at hy;subst hy;exact⟨_,rfl,key _⟩
  | 1,hy=>simp at hy;subst hy;exact⟨_,rfl,key _⟩
  | 2,hy=>simp at hy;subst hy;exact⟨_,rfl,key _⟩
  | (c+3),hy=>simp at hy
set_option maxHeartbeats 1000000 in
theorem YtkpioblbeiaefaaGreat.cmp_road (x y:je)(hx:0≤x.to∧x.to≤1000)(hy:0≤y.to∧y.to≤1000)(W:World):Calls Tryz.prog 200 #[.agg (YtkpioblbeiaefaaGreat.encRoadV x).toArray,.agg (YtkpioblbeiaefaaGreat.encRoadV y).toArray] W fun e w'=>e= .returned (.int .i64 (x.to - y.to))∧ ∃q os',w'=grow (W.drewN q) os':=by
 have ew:IntKind.i64.wrap (x.to - y.to)=x.to - y.to:=aD (by omega) (by omega);unfold YtkpioblbeiaefaaGreat.encRoadV
 go_enter Tryz.func200,Tryz.ntmps200
 go_wp2
 go_ret
 refine⟨by rw [←ew];rfl,0,_,by rw [alloc_eq_grow,alloc_eq_grow,grow_grow];rfl⟩
end Go.Proofs
namespace Go.Proofs.YtkpioblbeiaefaaGreat
open Go Go.Abs Go.Toll
variable {gl : aM} {h : ae}
theorem yO (rows:List je)(hr: ∀r∈rows,0≤r.to∧r.to≤1000)(hnd:(rows.map (·.to)).Nodup)(hl:rows.length≤1000000) {lo:Nat} {x:AV} (hx:Ls 3 lo h x (rows.map bA)):
  aa Tryz.prog gl 199 [x,.fn (.func 200) [] []] h fun v h'=>v= .tup []∧Ls 3 lo h' x ((rows.mergeSort fun a b=>decide (a.to≤b.to)).map bA)∧h'.length=h.length∧ ∀(b:Nat) (o:bU),h[b]? =some o→(∀off len,x≠ .own b off len)→h'[b]? =some o:=
 PU Kv 3 Nt Kw bA encRoadV encV_road (·.to) 200 (enters_of Tryz.func200 (by kernel_rfl) rfl) rows (fun x hx y hy W=>cmp_road x y (hr x hx) (hr y hy) W) hnd (by omega) hx
end Go.Proofs.YtkpioblbeiaefaaGreat
end
section
namespace Go.Proofs.YtkpioblbeiaefaaGreat
open Go Go.Abs Go.Toll
variable {gl : aM} {h : ae}
structure xH (h H:ae)(n:bg)(x:AV)(kvs:List (AV×AV))(y:AV):Prop where
 net:H[h.length]? =some (.cells 2 [dB n])
 res:H[h.length+1]? =some (.cells 3 [[.nil,.lit (.map none),.nil]])
 map:H[h.length+2]? =some (.map kvs)
 rr:H[h.length+3]? =some (.cells 3 [[x,.map (h.length+2),y]])
 base: ∃g,H=h++g
section
variable {H H' : ae} {n : bg} {x x' y y' : AV} {kvs kvs' : List (AV × AV)}
theorem xH.len (p:xH h H n x kvs y):h.length+3<H.length:=(zA.1 p.rr).1
theorem xH.at (p:xH h H n x kvs y):(H[h.length]? =some (.cells 2 [dB n])∧H[h.length+1]? =some (.cells 3 [[.nil,.lit (.map none),.nil]])∧H[h.length+2]? =some (.map kvs)∧H[h.length+3]? =some (.cells 3 [[x,.map (h.length+2),y]]))∧
  (h.length<H.length∧h.length+1<H.length∧h.length+2<H.length∧h.length+3<H.length)∧
  (∀hl:h.length<H.length,H[h.length]= .cells 2 [dB n])∧(∀hl:h.length+1<H.length,H[h.length+1]= .cells 3 [[.nil,.lit (.map none),.nil]])∧(∀hl:h.length+2<H.length,H[h.length+2]= .map kvs)∧ ∀hl:h.length+3<H.length,H[h.length+3]= .cells 3 [[x,.map (h.length+2),y]]:=by
 have hl:=p.len;refine⟨⟨p.net,p.res,p.map,p.rr⟩,⟨by omega,by omega,by omega,hl⟩,fun _=> ?_,fun _=> ?_,fun _=> ?_,fun _=> ?_⟩
 ·exact (zA.1 p.net).2
 ·exact (zA.1 p.res).2
 ·exact (zA.1 p.map).2
 ·exact (zA.1 p.rr).2
theorem xH.keep (p:xH h H n x kvs y)(hk: ∀b o,b<h.length+4→H[b]? =some o→H'[b]? =some o)(hb: ∃g,H'=h++g):xH h H' n x kvs y:=
 ⟨hk _ _ (by omega) p.net,hk _ _ (by omega) p.res,hk _ _ (by omega) p.map,hk _ _ (by omega) p.rr,hb⟩
theorem xH.more (p:xH h H n x kvs y)(g:ae):xH h (H++g) n x kvs y:=
 p.keep (fun b o _ ho=>by rw [zC (zA.1 ho).1];exact ho) (by obtain⟨g',rfl⟩:=p.base;exact⟨g'++g,by rw [zK]⟩)
theorem xH.setR (p:xH h H n x kvs y)(x' y':AV):xH h (H.set (h.length+3) (.cells 3 [[x',.map (h.length+2),y']])) n x' kvs y':=by
 have hl:=p.len;refine⟨?_,?_,?_,zI hl,?_⟩
 ·rw [zJ (by omega)];exact p.net
 ·rw [zJ (by omega)];exact p.res
 ·rw [zJ (by omega)];exact p.map
 ·obtain⟨g,rfl⟩:=p.base;exact⟨_,List.set_append_right _ _ (by omega)⟩
theorem xH.setM (p:xH h H n x kvs y)(kvs':List (AV×AV)):xH h (H.set (h.length+2) (.map kvs')) n x kvs' y:=by
 have hl:=p.len;refine⟨?_,?_,zI (by omega),?_,?_⟩
 ·rw [zJ (by omega)];exact p.net
 ·rw [zJ (by omega)];exact p.res
 ·rw [zJ (by omega)];exact p.rr
 ·obtain⟨g,rfl⟩:=p.base;exact⟨_,List.set_append_right _ _ (by omega)⟩
theorem xH.hi (p:xH h H n x kvs y) {b:Nat} {o:bU} (hb:h.length+4≤b):xH h (H.set b o) n x kvs y:=by
 refine p.keep (fun b' o' hb' ho=>by rw [zJ (by omega)];exact ho) ?_;obtain⟨g,rfl⟩:=p.base;exact⟨_,List.set_append_right _ _ (by omega)⟩
theorem xH.grow {lo:Nat} {s:AV} (p:xH h H n x kvs y)(g:Grow lo H s H')(hlo:h.length≤lo)(hs: ∀b off len,s= .own b off len→h.length+4≤b):xH h H' n x kvs y:=
 p.keep (fun b o hb ho=>g.keep b o ho (fun off len e=>by have:=hs b off len e;omega)) (g.base h hlo p.base)
end
def Ht:Nat→Option (List (Nat×Nat)):=fun i=>if i=20 then some [(1,19),(1,20),(4,19),(6,19),(7,19)] else none
set_option maxHeartbeats 4000000 in
theorem nG (n:bg)(hp:n.pts.length≤1000)(hl:n.lks.length≤1000):aa Tryz.prog gl 186 [.agg (dB n)] h fun v h'=> ∃m g,v= .agg (aS (bW n) m)∧h'=h++g∧h.length≤m∧h'[m]? =some (.map (sM gJ (Gg (bW n)))):=by
 refine aa.freeze (R:=fun x h'=> ∃a y c rs g,x= .agg [a,.map (h.length+2),y]∧h'=h++g∧h'[h.length+2]? =some (.map (sM gJ (Gg (bW n))))∧Ls 1 (h.length+4) h' a ((bu (bW n)).map aR)∧gI 3 (h.length+4) h' y c rs∧rs=(tV (bW n)).map fun r=>r.map bA) ?_ ?_
 ·refine aa.bodyL Ht Tryz.f186 _ mixed Tryz.func186 rfl rfl (by simp [Tryz.ntmps186]) ?_;simp;refine ax.pure _ (fun _=>qP n hp hl) ?_;simp;refine⟨fun hz=> ?_,fun hz=> ?_⟩
  ·have hv:bW n=⟨[],[]⟩:=by rw [bW,if_neg hz]
   have e1:bu ⟨[],[]⟩=[]:=List.mergeSort_nil;rw [hv];exact⟨.nil,.nil,⟨rfl,rfl⟩,by rw [Gg,e1];rfl,by rw [e1];exact Ls.nil,[],by rw [tV,e1];exact gI.nil⟩
  ·have hv:bW n=n:=by rw [bW,if_pos hz]
   have ok:=si hz;rw [hv];refine aT.upL Ht mixed n.pts.length (fun i fr h'=>fr 1= .ptr h.length 0 0∧fr 2= .ptr (h.length+1) 0 0∧fr 3= .ptr (h.length+3) 0 0∧fr 20= .ro (n.pts.map eB)∧fr 21= .int .i64 n.pts.length∧fr 22= .int .i64 i∧
    ∃x,xH h h' n x [] .nil∧Ls 1 (h.length+4) h' x ((CV n i).map aR)) 0 (by omega) ⟨by simp,by simp,by simp,by simp,by simp,by simp,.nil,⟨by simp,by simp,by simp,by simp,by simp⟩,Ls.nil⟩ ?_
   rintro i fr H hi ⟨e1,e2,e3,e20,e21,e22,x,hP,hL⟩;have hPl:=hP.len;have hf:=hL.rs.fix;rcases zN i n.pts.length with hlt | hge
   ·obtain⟨p,hg,hg'⟩:=aN hlt;have ew:=aC (i:=i) (by omega);have hP1:=hP.more [.cells 3 [eB p]];simp [-ak,-av,-ai,-AV.solid,Ht,e1,e2,e3,e20,e21,e22,hlt,hg,hg',hP.at,hf];refine Di (lo:=h.length+4) (n:=1) (es:=(CV n i).map aR) (ys:=[aR p.name]) (by simpa [aR] using hL.more [.cells 3 [eB p],.cells 1 [aR p.name]]) (by simp;omega) (by simp [bF,aR]) (by have:=Pm n i;simp;omega) ?_;intro s1 H1 hs1 hg1;have hs1f:=hs1.rs.fix;have hP2:=(hP.more [.cells 3 [eB p],.cells 1 [aR p.name]]).grow (by simpa [aR] using hg1) (by omega) hL.above;have hPl2:=hP2.len;simp [-ak,-av,-ai,-AV.solid,Ht,e1,e2,e3,e20,e21,e22,hlt,hg,hg',hP2.at,hs1f,ew];refine⟨i+1,by omega,by omega,by omega,s1,hP2.setR _ _,?_⟩;have:=hs1.put (b:=h.length+3) (o:= .cells 3 [[s1,.map (h.length+2),.nil]]) (by omega);rw [M8 hg];simpa using this
   ·obtain rfl:i=n.pts.length:=by omega
    rw [Pk] at hL;simp [-ak,-av,-ai,-AV.solid,Ht,e1,e2,e3,e20,e21,e22,hP.at,hf];refine ax.any (wE (n.pts.map (·.name)) hL (by simp;omega)) ?_;rintro v H1 ⟨rfl,hL1,hlen1,hk1⟩;have hP1:=hP.keep (H':=H1) (fun b o hb ho=>hk1 b o ho fun off len e=>by have:=hL.above b off len e;omega) (jv hP.base (fun b o hb ho=>hk1 b o ho fun off len e=>by have:=hL.above b off len e;omega) (by omega));have hPl1:=hP1.len;rw [show jD (n.pts.map (·.name))=bu n from rfl] at hL1;have hf1:=hL1.rs.fix;simp [-ak,-av,-ai,-AV.solid,Ht,e1,e2,e3,hP1.at,hf1,hL1.rs.len2];have hpl:=kJ n;refine aT.upL Ht mixed (bu n).length (fun i fr h'=>fr 1= .ptr h.length 0 0∧fr 2= .ptr (h.length+1) 0 0∧fr 3= .ptr (h.length+3) 0 0∧fr 38=x∧fr 39= .int .i64 (bu n).length∧fr 40= .int .i64 i∧
     xH h h' n x (CS n i) .nil∧Ls 1 (h.length+4) h' x ((bu n).map aR)) 0 (by omega) ⟨by simp [e1],by simp [e2],by simp [e3],by simp,by simp,by simp,hP1,hL1⟩ ?_
    clear hP hL hf e1 e2 e3 e20 e21 e22 hP1 hL1 hf1 hPl hPl1 hlen1 hk1 hi hge;rintro i fr H hi ⟨e1,e2,e3,e38,e39,e40,hP,hL⟩;have hf:=hL.rs.fix;have hPl:=hP.len;rcases zN i (bu n).length with hlt | hge
    ·obtain⟨s,hs,hs'⟩:=aN hlt;have ew:=aC (i:=i) (by omega);have rx:=Rs.ix Tryz.prog hL.rs i (by omega) (y:=aR s) (by simp [hs]);have hset:=MZ ok hs;have hkok:aW Tryz.prog 9 (.str s) (CS n i):=by
      refine⟨by simp [dA],[.str],by simp,by simp,fun p hp=> ?_⟩;obtain⟨q,_,rfl⟩:=xh _ hp;simp
     have hPm:=hP.setM (CS n (i+1));have hLm:=hL.put (b:=h.length+2) (o:= .map (CS n (i+1))) (by omega);simp [-ak,-av,-ai,-AV.solid,-aW,Ht,e1,e2,e3,e38,e39,e40,hlt,hP.at,hf,rx,aR,hset,hkok,ew];exact⟨i+1,by omega,by omega,by omega,hPm,hLm⟩
    ·obtain rfl:i=(bu n).length:=by omega
     rw [O7] at hP;simp [-ak,-av,-ai,-AV.solid,Ht,e1,e2,e3,e38,e39,e40,hP.at,hf,hL.rs.len2];refine⟨by omega,?_⟩;obtain⟨M,hM⟩: ∃M,M=H.length:=⟨_,rfl⟩;have hxM: ∀b off len,x= .own b off len→b<M:=fun b off len e=>by rw [hM];exact hL.rs.lt e
     have hMl:h.length+4≤M:=by omega
     rw [←hM];refine aT.upL Ht mixed n.lks.length (fun j fr h'=>fr 1= .ptr h.length 0 0∧fr 2= .ptr (h.length+1) 0 0∧fr 3= .ptr (h.length+3) 0 0∧fr 56= .ro (n.lks.map nT)∧fr 57= .int .i64 n.lks.length∧fr 58= .int .i64 j∧
      ∃cs,xH h h' n x (sM gJ (Gg n)) (.own M 0 cs.length)∧Ls 1 (h.length+4) h' x ((bu n).map aR)∧gI 3 M h' (.own M 0 cs.length) cs (yM n j)∧NL 3 M h' cs (yM n j)∧cs.length=(bu n).length) 0 (by omega)
      ⟨by simp [e1],by simp [e2],by simp [e3],by simp,by simp,by simp,List.replicate (bu n).length .nil,?_,?_,?_,?_,by simp⟩ ?_
     ·have:=(hP.setR x (.own M 0 (bu n).length)).more [.cells 1 (List.replicate (bu n).length [.nil])];simpa using this
     ·exact (hL.put (by omega)).more _
     ·have hq:=(gI.nils (n:=3) (m:=(bu n).length) (H:=H.set (h.length+3) (.cells 3 [[x,.map (h.length+2),.own M 0 (bu n).length]])) (lo:=M) (by simp [hM])).1;rw [Ee];simpa [hM] using hq
     ·have hq:=(gI.nils (n:=3) (m:=(bu n).length) (H:=H.set (h.length+3) (.cells 3 [[x,.map (h.length+2),.own M 0 (bu n).length]])) (lo:=M) (by simp [hM])).2;rw [Ee];exact hq
     clear hP hL hf e1 e2 e3 e38 e39 e40 hPl hi hge;rintro j fr H hj ⟨e1,e2,e3,e56,e57,e58,cs,hP,hL,hN,hNL,hcl⟩;have hPl:=hP.len;rcases zN j n.lks.length with hlt | hge
     ·obtain⟨l,hl0,hl1⟩:=aN hlt;have ew:=aC (i:=j) (by omega);obtain⟨w1,w2,w3⟩:=ok.ends l (zF hl0);have hk1:fJ (sM gJ (Gg n)) (.str l.src)=some (.int .i64 (aV n l.src)):=by rw [jq,Av,if_pos w1];rfl
      have hk2:fJ (sM gJ (Gg n)) (.str l.dst)=some (.int .i64 (aV n l.dst)):=by rw [jq,Av,if_pos w2];rfl
      have hkok: ∀s,aW Tryz.prog 9 (.str s) (sM gJ (Gg n)):=fun s=>by
       refine⟨by simp [dA],[.str],by simp,by simp,fun p hp=> ?_⟩;obtain⟨q,_,rfl⟩:=xh _ hp;simp
      have hpl2:=dD w1;rw [←hcl] at hpl2;obtain⟨c,hc,hc'⟩:=aN hpl2;have hrg:=Py (j:=j) w1;have hLc:=hNL _ _ _ hc hrg;have hcf:=hLc.rs.fix;have hB:=hN.blk;simp [-ak,-av,-ai,-AV.solid,-aW,Ht,e1,e2,e3,e56,e57,e58,hlt,hl0,hl1,hP.at,hkok,hk1,hk2,hB,hpl2,hc,hc',hcf];refine⟨by decide,?_⟩;refine aO (lo:=M) (n:=3) (es:=Pv n j l.src) (ys:=[bA (aX n l)]) (by simpa [aX] using hLc.more [.cells 4 [nT l],.cells 3 [bA (aX n l)]]) (by simp;omega) (by simp [bF,aX]) (by have:=Pw n j l.src;simp;omega) ?_;intro s1 H1 hs1 hg1 hn1;have hs1f:=hs1.rs.fix;obtain⟨hN1,hNL1⟩:=O3 (os:=[.cells 4 [nT l],.cells 3 [bA (aX n l)]]) hN hNL hc hrg hs1 (by simpa [aX] using hg1) (by simpa [aX] using hn1);have hP2:=(hP.more [.cells 4 [nT l],.cells 3 [bA (aX n l)]]).grow (by simpa [aX] using hg1) (by omega) (fun b off len e=>by have:=hLc.above b off len e;omega);have hL2:=(hL.more [.cells 4 [nT l],.cells 3 [bA (aX n l)]]).grow (by simpa [aX] using hg1) (fun b e _ off len e'=>by have:=hxM _ _ _ e;have:=hLc.above _ _ _ e';omega);have hP3:=hP2.hi (b:=M) (o:= .cells 1 ((cs.map fun c=>[c]).set (aV n l.src) [s1])) (by omega);have hlen1:=hg1.len;have hB1:=hN.blk1 (os:=[.cells 4 [nT l],.cells 3 [bA (aX n l)]]) hc hrg (by simpa [aX] using hg1);simp [-ak,-av,-ai,-AV.solid,-aW,Ht,e1,e2,e3,e56,e57,e58,hlt,hl0,hl1,hP.at,hkok,hk1,hk2,hB,hpl2,hc,hc',hcf,hP2.at,hs1f,ew,hB1];refine⟨j+1,by omega,by omega,by omega,cs.set (aV n l.src) s1,by simpa using hP3,hL2.keep' fun b len o e ho=>by rw [zJ (by have:=hxM _ _ _ e;omega)];exact ho,?_,?_,by simp [hcl]⟩
      ·rw [Ed ok hl0];simpa using hN1
      ·rw [Ed ok hl0];exact hNL1
     ·obtain rfl:j=n.lks.length:=by omega
      rw [←MU] at hN hNL;simp [-ak,-av,-ai,-AV.solid,-aW,Ht,e1,e2,e3,e56,e57,e58,hP.at];refine aT.upL Ht mixed cs.length (fun i fr h'=>fr 1= .ptr h.length 0 0∧fr 2= .ptr (h.length+1) 0 0∧fr 3= .ptr (h.length+3) 0 0∧fr 90= .own M 0 cs.length∧fr 91= .int .i64 cs.length∧fr 92= .int .i64 i∧
       xH h h' n x (sM gJ (Gg n)) (.own M 0 cs.length)∧Ls 1 (h.length+4) h' x ((bu n).map aR)∧gI 3 M h' (.own M 0 cs.length) cs (yI n i)∧NL 3 M h' cs (yI n i)) 0 (by omega)
       ⟨by simp [e1],by simp [e2],by simp [e3],by simp,by simp,by simp,hP,hL,hN,hNL⟩ ?_
      clear hP hL hN hNL e1 e2 e3 e56 e57 e58 hPl hge hj;rintro i fr H hi ⟨e1,e2,e3,e90,e91,e92,hP,hL,hN,hNL⟩;have hPl:=hP.len;have hB:=hN.blk;rcases zN i cs.length with hlt | hge
      ·obtain⟨c,hc,hc'⟩:=aN hlt;obtain⟨s,hs,_⟩:=aN (l:=bu n) (i:=i) (by omega);have hrg:=OY hs;have hLc:=hNL _ _ _ hc hrg;have hcf:=hLc.rs.fix;have ew:=aC (i:=i) (by omega);simp [-ak,-av,-ai,-AV.solid,-aW,Ht,e1,e2,e3,e90,e91,e92,hlt,hP.at,hB,hc,hc',hcf];refine ax.any (yO (QZ n s) (fun r hr=> ?_) (Nj ok s) ?_ hLc) ?_
       ·obtain⟨z,hz,rfl⟩:=List.mem_map.1 hr;have:=dD (ok.ends z (List.mem_filter.1 hz).1).2.1;simp only [aX];omega
       ·rw [QZ,List.length_map];exact Nat.le_trans (List.length_filter_le _ _) (by omega)
       ·rintro v H1 ⟨rfl,hLc1,hlen1,hk1⟩;rw [show (QZ n s).mergeSort (fun a b=>decide (a.to≤b.to))=rowOf n s from Kj ok s] at hLc1;obtain⟨hN1,hNL1⟩:=MV hN hNL hc hLc1 hk1;rw [MS hs] at hN1 hNL1;have hP1:=hP.keep (H':=H1) (fun b o hb ho=>hk1 b o ho fun off len e=>by have:=hLc.above b off len e;omega) (jv hP.base (fun b o hb ho=>hk1 b o ho fun off len e=>by have:=hLc.above b off len e;omega) (by omega));have hL1:Ls 1 (h.length+4) H1 x ((bu n).map aR):=hL.keep' fun b len o e ho=>hk1 b o ho fun off len' e'=>by have:=hxM _ _ _ e;have:=hLc.above _ _ _ e';omega
        simp [-ak,-av,-ai,-AV.solid,-aW,Ht,e1,e2,e3,e90,e91,e92,ew];exact⟨i+1,by omega,by omega,by omega,hP1,hL1,hN1,hNL1⟩
      ·obtain rfl:i=cs.length:=by omega
       rw [hcl,OX,←hcl] at hN;have hxf:=hL.rs.fix;simp [-ak,-av,-ai,-AV.solid,-aW,Ht,e1,e2,e3,e90,e91,e92,hP.at,hxf];refine⟨x,_,⟨rfl,rfl⟩,?_,hL.put (by omega),cs,(hN.low hMl).put0 (by omega)⟩;obtain⟨g,rfl⟩:=hP.base;exact⟨_,List.set_append_right _ _ (by omega)⟩
 ·rintro x h' ⟨a,y,c,rs,g,rfl,rfl,hm,hL,hN,rfl⟩;obtain⟨k1,hk1,f1⟩:=hL.lend;obtain⟨k2,hk2,f2⟩:=hN.lend;have hge: ∀b∈k1++k2,h.length+4≤b:=fun b hb=>by
   rcases List.mem_append.1 hb with hb | hb
   ·exact (hk1 b hb).1
   ·exact hk2 b hb
  obtain⟨g',hg'⟩:=jS (k1++k2) h g fun b hb=>by have:=hge b hb;omega
  refine⟨k1++k2,_,eH.agg' (.cons (f1.more fun b hb=>List.mem_append_left _ hb) (.cons (.same _) (.cons (f2.more fun b hb=>List.mem_append_right _ hb) .nil))),h.length+2,g',?_,hg',by omega,?_⟩
  ·rw [aS,List.map_map];rfl
  ·rw [jT _ _ _ fun hb=>by have:=hge _ hb;omega];exact hm
end Go.Proofs.YtkpioblbeiaefaaGreat
end
section
namespace Go.Proofs.YtkpioblbeiaefaaGreat
open Go Go.Abs Go.Toll
variable {gl : aM} {h : ae}
theorem AJ (v:bg)(s:Bytes):aW Tryz.prog 9 (.str s) (sM gJ (Gg v)):=by
 refine⟨by simp [dA],[.str],by simp,by simp,fun p hp=> ?_⟩;obtain⟨q,_,rfl⟩:=xh _ hp;simp
theorem Hq (v:bg)(s:Bytes):fJ (sM gJ (Gg v)) (.str s)=if aG v.pts s=true then some (.int .i64 (aV v s)) else none:=by
 rw [jq,Av];split <;> rfl
structure wM (h:ae)(m:Nat)(v:bg):Prop where
 at':h[m]? =some (.map (sM gJ (Gg v)))
theorem wM.lt {h:ae} {m:Nat} {v:bg} (p:wM h m v):m<h.length:=(zA.1 p.at').1
theorem wM.all {h:ae} {m:Nat} {v:bg} (p:wM h m v):h[m]? =some (.map (sM gJ (Gg v)))∧m<h.length∧ ∀hl:m<h.length,h[m]= .map (sM gJ (Gg v)):=⟨p.at',p.lt,fun _=>(zA.1 p.at').2⟩
theorem wM.more {h:ae} {m:Nat} {v:bg} (p:wM h m v)(g:ae):wM (h++g) m v:=⟨by rw [zC p.lt];exact p.at'⟩
structure fP (h H:ae)(p m:Nat)(v:bg):Prop where
 rr:H[p]? =some (.cells 3 [aS v m])
 mm:wM H m v
 ple:h.length≤p
 base: ∃g,H=h++g
section
variable {H H' : ae} {p m lo : Nat} {v : bg}
theorem fP.all (r:fP h H p m v):(H[p]? =some (.cells 3 [aS v m])∧p<H.length∧ ∀hl:p<H.length,H[p]= .cells 3 [aS v m])∧H[m]? =some (.map (sM gJ (Gg v)))∧m<H.length∧ ∀hl:m<H.length,H[m]= .map (sM gJ (Gg v)):=
 ⟨⟨r.rr,(zA.1 r.rr).1,fun _=>(zA.1 r.rr).2⟩,r.mm.all⟩
theorem fP.more (r:fP h H p m v)(g:ae):fP h (H++g) p m v:=
 ⟨by rw [zC r.all.1.2.1];exact r.rr,r.mm.more g,r.ple,aF r.base g⟩
theorem fP.keep (r:fP h H p m v)(hk: ∀b o,b<lo→H[b]? =some o→H'[b]? =some o)(hp:p<lo)(hm:m<lo)(hb: ∃g,H'=h++g):fP h H' p m v:=
 ⟨hk _ _ hp r.rr,⟨hk _ _ hm r.mm.at'⟩,r.ple,hb⟩
theorem fP.grow {lo':Nat} {s:AV} (r:fP h H p m v)(g:Grow lo' H s H')(hs: ∀b off len,s= .own b off len→lo≤b)(hp:p<lo)(hm:m<lo)(hlo:h.length≤lo'):fP h H' p m v:=
 r.keep (fun b o hb ho=>g.keep b o ho fun off len e=>by have:=hs b off len e;omega) hp hm (g.base h hlo r.base)
theorem fP.new {H0:ae} (hM:wM H0 m v)(hB: ∃g,H0=h++g):fP h (H0++[.cells 3 [aS v m]]) H0.length m v:=
 ⟨by simp,hM.more _,cu hB,aF hB _⟩
end
def Gt (v:bg)(a b:Bytes):AV:=match l9 v a b with
 | some (p,d)=> .tup [.ro (p.map aR),.int .i64 d,.bool true]
 | none=> .tup [.ro [],.int .i64 0,.bool false]
def numOf (v:bg)(s:Bytes):Int:=if aG v.pts s=true then (aV v s:Int) else 0
theorem Ay (v:bg)(m:Nat)(a b:Bytes)(hm:wM h m v):aa Tryz.prog gl 194 [.agg (aS v m),.str a,.str b] h fun x h'=>x= .tup [.int .i64 (numOf v a),.int .i64 (numOf v b),.bool (aG v.pts a && aG v.pts b)]∧h'=h:=by
 refine aa.data (by simp) (aa.body Tryz.f194 _ mixed Tryz.func194 rfl rfl (by simp [Tryz.ntmps194]) ?_);have hk:=AJ v;have hl:=Hq v;by_cases h1:aG v.pts a=true <;> by_cases h2:aG v.pts b=true <;> simp [-aW,aS,hm.all,hk,hl,h1,h2,numOf]
end Go.Proofs.YtkpioblbeiaefaaGreat
end
section
namespace Go.Proofs.YtkpioblbeiaefaaGreat
open Go Go.Abs Go.Toll
variable {gl : aM} {h : ae}
theorem zl (x:AV)(es:List (List AV))(hx:Rd 3 h x es)(hl:es.length≤1152921504606846976)(f:FuncId)(caps:List AV)(p:List AV→Bool)
  (hp: ∀e∈es,∀g,aa Tryz.prog gl f (.agg e::caps) (h++g) fun v h'=>v= .bool (p e)∧h'=h++g):
  aa Tryz.prog gl 187 [x,.fn (.func f) [] caps] h fun v h'=>v= .int .i64 (kT p es)∧h'=h:=by
 refine aa.data (by simp) (aa.body Tryz.f187 _ mixed Tryz.func187 rfl rfl (by simp [Tryz.ntmps187]) ?_);simp [hx.core,hx.gd,hx.lenOk,hx.alen];refine aT.up mixed es.length (fun i fr h'=>fr 0=x∧fr 1= .fn (.func f) [] caps∧fr 7= .int .i64 es.length∧fr 8= .int .i64 i∧kT p es=idxFrom p i (es.drop i)∧ ∃g,h'=h++g) 0 (by omega) ⟨by simp,by simp,by simp,by simp,by simp [kT],[],by simp⟩ ?_;rintro i fr h' hi ⟨e0,e1,e7,e8,hf,g,rfl⟩;have hx:=hx.append g;rcases zN i es.length with hlt | hge
 ·obtain⟨y,hg,hg'⟩:=aN hlt;have hy:y.length=3:=hx.2 y (hg'▸List.getElem_mem hlt);rw [bv hg,idxFrom] at hf;have ew:=aC (i:=i) (by omega);have h0:(0:Int)≤i:=by omega
  have h1:(i:Int)<es.length:=by omega
  simp [e0,e1,e7,e8,hlt,hx.core,hx.gd,hx.iaddrOk,h0,h1,hx.icore,hx.igd,hx.loadV h0 h1 hg,hx.loadOk h0 h1 hg,hy];rw [zG (by omega)];refine ax.pure _ (fun _=>hp y (hg'▸List.getElem_mem hlt) g) ?_;simp [e0,e1,e7,e8,ew];refine⟨fun hpy=>by simp [hf,hpy],fun hpy=>⟨i+1,by omega,by omega,by simp,by simp [hf,hpy]⟩⟩
 ·rw [zH hge] at hf;simp [e0,e1,e7,e8,hf,Nat.not_lt.2 hge,idxFrom]
end Go.Proofs.YtkpioblbeiaefaaGreat
end
section
namespace Go.Proofs.YtkpioblbeiaefaaGreat
open Go Go.Abs Go.Toll
variable {gl : aM} {h : ae}
def jI (b:Bool):List AV:=[.bool b]
def sV (v:bg)(s:Bytes):List AV:=[.int .i64 (aV v s)]
theorem Ox (l:List Bool): ∀e∈l.map jI,e.length=1:=by
 intro e he;obtain⟨_,_,rfl⟩:=List.mem_map.1 he;rfl
section
variable {H H' : ae} {p m : Nat} {v : bg} {sn : List Bool} {x : AV} {Q : List Bytes}
end
theorem CG (r:je)(b:Nat)(n:Int)(hb:h[b]? =some (.cells 1 [[.int .i64 n]])):aa Tryz.prog gl 188 [.agg (bA r),.ptr b 0 0] h fun x h'=>x= .bool (decide (r.to=n))∧h'=h:=by
 refine aa.data (.bool _) (aa.body Tryz.f188 _ mixed Tryz.func188 rfl rfl (by simp [Tryz.ntmps188]) ?_);obtain⟨h1,h2⟩:=zA.1 hb;simp [hb,h1,h2];rfl
def Qi:Nat→Option (List (Nat×Nat)):=fun i=>if i=15 then some [(1,8),(4,8),(5,8),(6,8)] else none
set_option maxHeartbeats 4000000 in
theorem oQ (n:bg)(pth:List Bytes)(hp:n.pts.length≤1000)(hl:n.lks.length≤1000)(hpl:pth.length≤1000000):aa Tryz.prog gl 170 [.agg (dB n),.ro (pth.map aR)] h fun x h'=>x= .tup [.int .i64 (bD (bW n) pth).1,.int .i64 (bD (bW n) pth).2.1,.int .i64 (bD (bW n) pth).2.2]∧h'=h:=by
 refine aa.data (by simp) (aa.bodyL Qi Tryz.f170 _ mixed Tryz.func170 rfl rfl (by simp [Tryz.ntmps170]) ?_);have ok:=xE n;simp;refine ax.any (nG n hp hl) ?_;rintro x h1 ⟨m,g,rfl,hh1,hmge,hm⟩;generalize bW n=v at*;have hM:wM h1 m v:=⟨hm⟩;have hB: ∃g1,h1=h++g1:=⟨_,by rw [hh1,zK]⟩;clear hh1 hmge;have hk:=AJ v;have hl:=Hq v;have hR:=fP.new hM hB;obtain⟨p,hp⟩: ∃p,p=h1.length:=⟨_,rfl⟩;have hml:=hM.lt;have hbl:=cu hB;simp [aS];refine⟨fun e=> ?_,fun hne=> ?_⟩
 ·subst e;exact⟨⟨rfl,rfl,rfl⟩,aF hB _⟩
 ·rw [←hp] at hR ⊢;refine aT.upL Qi mixed pth.length (fun i fr H=>fr 1= .ro (pth.map aR)∧fr 7= .ptr p 0 0∧fr 23= .ro (pth.map aR)∧fr 24= .int .i64 pth.length∧fr 25= .int .i64 i∧fP h H p m v∧ ∀s∈upTo pth i,aG v.pts s=true) 0 (by omega)
   ⟨by simp,by simp,by simp,by simp,by simp,hR,by simp [upTo]⟩ ?_
  clear hR;rintro i fr H hi ⟨e1,e7,e23,e24,e25,hR,hall⟩;have hRl:=hR.all.1.2.1;rcases zN i pth.length with hlt | hge
  ·obtain⟨s,hs,hs'⟩:=aN hlt;have ew:=aC (i:=i) (by omega);have hu:=NK hs;by_cases q:aG v.pts s=true
   ·simp [-ak,-av,-ai,-AV.solid,-aW,Qi,aS,aR,hR.all,hk,hl,q,e1,e7,e23,e24,e25,hlt,hs,hs',ew];refine⟨i+1,by omega,by omega,by omega,hR,fun t ht=> ?_⟩;rw [hu] at ht;rcases List.mem_append.1 ht with ht | ht
    ·exact hall t ht
    ·rw [List.mem_singleton.1 ht];exact q
   ·have hbad:=xK (v:=v) hne ⟨s,zF hs,by simpa using q⟩;simp [-ak,-av,-ai,-AV.solid,-aW,Qi,aS,aR,hR.all,hk,hl,q,e1,e7,e23,e24,e25,hlt,hs,hs'];rw [hbad];exact⟨⟨rfl,rfl,rfl⟩,hR.base⟩
  ·rw [P7 hge] at hall;obtain rfl:i=pth.length:=by omega
   obtain⟨a,l,hal⟩:=List.exists_cons_of_ne_nil hne;have hbm:bD v pth=match wk v a l with | some s=>(s.1,s.2,0) | none=>(0,0,21):=by
    rw [hal];exact jL (by rw [←hal];exact hall)
   obtain⟨W,hW⟩: ∃W,W=wk v a l:=⟨_,rfl⟩;rw [←hW] at hbm;simp [-ak,-av,-ai,-AV.solid,-aW,Qi,e1,e7,e23,e24,e25];refine aT.upL Qi mixed pth.length (fun i fr H=>fr 1= .ro (pth.map aR)∧fr 7= .ptr p 0 0∧fr 14= .int .i64 i∧fP h H p m v∧1≤i∧ ∃low high u,fr 12= .int .i64 low∧fr 13= .int .i64 high∧pth[i - 1]? =some u∧W=(wk v u (pth.drop i)).map (fun s=>(low+s.1,high+s.2))∧(0≤low∧low≤2147483648*(i:Int))∧(0≤high∧high≤2147483648*(i:Int))) 1 (by rw [hal];simp)
    ⟨by simp [e1],by simp [e7],by simp,hR,by omega,0,0,a,by simp,by simp,by rw [hal];rfl,?_,by omega,by omega⟩ ?_
   ·rw [hW,hal];simp
   clear e1 e7 e23 e24 e25 hR hRl hi hge;rintro i fr H hi ⟨e1,e7,e14,hR,h1i,low,high,u,e12,e13,hu,hWu,hlo,hhi⟩;have hRl:=hR.all.1.2.1;rcases zN i pth.length with hlt | hge
   ·obtain⟨t,ht,ht'⟩:=aN hlt;have ew:=aC (i:=i) (by omega);have htp:=hall t (zF ht);have hup:=hall u (zF hu);have hu':=(zA.1 hu).2;have hul:=(zA.1 hu).1;have ew1:IntKind.i64.wrap ((i:Int) - 1)=((i - 1:Nat):Int):=by rw [aD (by omega) (by omega)];omega
    have hrow:=lW (fD hup);have hrl:=(zA.1 hrow).1;have hrow':=(zA.1 hrow).2;rw [bv ht] at hWu;simp [-ak,-av,-ai,-AV.solid,-aW,Qi,aS,aR,hR.all,hk,hl,htp,hup,e1,e7,e12,e13,e14,hlt,ht,ht',hu,hu',hul,ew,ew1,hrow,hrow',hrl];refine⟨by decide,by decide,?_⟩;have hrlen:=oD v u;have hlk:=ok.llen;refine ax.pure _ (fun _=>zl _ ((rowOf v u).map bA) (Rd.ro (by simp)) (by simp;omega) 188 [.ptr H.length 0 0] (fun e=>decide (gT (e.getD 0 .junk)=aV v t)) ?_) ?_
    ·intro e he g1;obtain⟨r,_,rfl⟩:=List.mem_map.1 he;exact CG r H.length (aV v t) (by simp)
    ·have hR1:=hR.more [.cells 1 [[.int .i64 (aV v t)]]];rw [GZ bA _ (fun r:je=>decide (r.to=aV v t)) (fun r=>rfl)];rcases Q4 ok (s:=u) htp with⟨c1,c2⟩ | ⟨k,x,c1,c2,c3⟩
     ·have hnone:W=none:=by rw [hWu,wk,c2];rfl
      rw [c1];simp [-ak,-av,-ai,-AV.solid,-aW,Qi];rw [hbm,hnone];exact⟨⟨rfl,rfl,rfl⟩,hR1.base⟩
     ·obtain⟨m1,_,_⟩:=fB c3;obtain⟨r1,r2,r3⟩:=ok.rng x m1;have hsome:W=(wk v t (pth.drop (i+1))).map (fun s=>(low+x.min+s.1,high+x.max+s.2)):=by
       rw [hWu,wk,c3]
       cases wk v t (pth.drop (i+1)) with
       | none=>rfl
       | some s=>simp [Int.add_assoc]
      have c2':=(zA.1 c2).2;have c2l:=(zA.1 c2).1;have ew2:IntKind.i64.wrap (low+x.min)=low+x.min:=aD (by omega) (by omega);have ew3:IntKind.i64.wrap (high+x.max)=high+x.max:=aD (by omega) (by omega);have hkn: ¬((k:Int)<0):=by omega
      rw [c1];simp [-ak,-av,-ai,-AV.solid,-aW,Qi,e1,e7,e12,e13,e14,hkn,c2,c2',c2l,aX,ew,ew2,ew3];exact⟨i+1,by omega,by omega,by omega,hR1,by omega,t,by simpa using ht,hsome,by omega,by omega⟩
   ·obtain rfl:i=pth.length:=by omega
    rw [List.drop_length] at hWu;simp [-ak,-av,-ai,-AV.solid,-aW,Qi,e1,e7,e12,e13,e14];rw [hbm,hWu];exact⟨⟨by simp,by simp,by simp⟩,hR.base⟩
end Go.Proofs.YtkpioblbeiaefaaGreat
end
