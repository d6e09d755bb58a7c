/- Part 16 of the lemmas below the statements of this seat: AbsStr, SortLay, PassB, TripE. -/
import Derived.Test.YtkpioblbeiaefaaGreatPr14
import Derived.Shelf.SortM.Plain
import Derived.Shelf.SortM.SortNone
set_option linter.unusedSectionVars false
set_option linter.unusedVariables false
set_option linter.unusedSimpArgs false
set_option linter.unnecessarySimpa false
set_option maxRecDepth 100000
section
namespace Go.Abs
open Go Go.Proofs Go.Shelf
theorem Jc {gl:aM} {h:af} {J:List dL} {w:World} (hh:bR gl h J w)(os:Array Obj):bR gl h J (Sort.grow w os)∧iK h J w h J (Sort.grow w os):=by
 have hk: ∀r,r<w.heap.size→(Sort.grow w os).heap[r]? =w.heap[r]? :=fun r hr=>by
  show (w.heap++os)[r]? =_;rw [Array.getElem?_append_left hr]
 have ev:iK h J w h J (Sort.grow w os):=⟨⟨[],by simp⟩,by simp [Sort.grow],fun r hr n=>⟨hk r hr,n⟩,rfl,rfl,rfl⟩;exact⟨hh.step ev hh.len hh.inj (fun b k hb=>Nat.lt_of_lt_of_le (hh.lt b k hb) ev.size) (fun b k o h1 h2 _=> .inl ⟨h1,h2,hk _ (hh.lt b k h1)⟩),ev⟩
theorem Rw {P:Program} {ρ:Ren} {gl:aM} {h:af} (Ly:SlLaysM.n6 P ρ)(b:Nat)(ss:List (List UInt8))(hb:h[b]? =some (.cells 1 (ss.map aO)))(hl:ss.length<4611686018427387904):
  aa P gl (ρ.f 6) [.own b 0 ss.length] h fun v h'=>v= .tup []∧h'=h.set b (.cells 1 ((ku ss).map aO)):=by
 refine⟨?_,fun J w vs hh hv=> ?_⟩
 ·obtain⟨nm,hn,hf⟩:=Ly.f6;exact⟨_,hf,rfl,hn⟩
 ·obtain⟨hvl,hvr⟩:=hv
  match vs,hvl with
  | [v],_=>
   have hr:=hvr 0 _ v rfl rfl
   cases hr with
   | own _ _ _ k a cap hk ha hle hcap=>
    by_cases h0:ss=[]
    ·subst h0;refine Calls.mono' (AnyM.slices_Sort_string_none Ly (some a) cap w) ?_;rintro e w' ⟨rfl,rfl⟩;have hset:h.set b (.cells 1 ((ku []).map aO))=h:=by
      refine List.ext_getElem? fun i=> ?_;rw [List.getElem?_set];split
      ·rename_i e;subst e
       rw [if_pos (zA.1 hb).1,hb,show ku []=[] from List.mergeSort_nil]
      ·rfl
     exact⟨.tup [],_,J,h,rfl,hh,.tup [] [] rfl (by simp),iK.refl _ _ _,rfl,hset.symm⟩
    ·have hpos:0<ss.length:=List.length_pos_iff.2 h0;have ha':=ha (by omega);subst ha';obtain⟨o1,o2,o3,o4,vs0,T,o5,o6,o7⟩:=hh.obj b k _ hk hb;have hkn:k.n=1:=o1;have cellv: ∀(i:Nat) (s:List UInt8),ss[i]? =some s→vs0[k.base+i]? =some (encStr s):=fun i s hs=>by
      obtain⟨u,p1,p2,p3⟩:=o7 i (aO s) 0 (.str s) (by rw [List.getElem?_map,hs];rfl) rfl;rw [hkn] at p1;cases p3
      simpa using p1
     have hH:Sort.Holds encStr w k.r (k.base+0*k.n) ss.toArray:=fun j hj=>by
      have hj':j<ss.length:=by simpa using hj
      obtain⟨s,hs,hs'⟩: ∃s,ss[j]? =some s∧ss[j]=s:=⟨_,zB hj',rfl⟩;have e:ss.toArray[j]! =s:=by rw [getElem!_pos ss.toArray j hj];simpa using hs'
      rw [e,Nat.zero_mul,Nat.add_zero];refine⟨?_,?_⟩
      ·rw [cell_of_heap o5];exact cellv j s hs
      ·simp [World.frozen?,o5]
     refine Calls.mono' (AnyM.slices_Sort_string Ly k.r (k.base+0*k.n) cap ss w hH (hh.lt b k hk) hl) ?_;rintro e w' ⟨rfl,n,os,rfl⟩;obtain⟨d,hd⟩: ∃d,d=ku ss:=⟨_,rfl⟩;have hdl:d.length=ss.length:=by rw [hd,ku,List.length_mergeSort]
     rw [show (ss.mergeSort fun x y=>decide (x≤y))=d from hd.symm,←hd];have hw1:(Sort.putRow encStr (Sort.ahead w n) k.r (k.base+0*k.n) d.toArray).heap[k.r]? =some (.cells (Sort.putCells encStr (k.base+0*k.n) d.toArray vs0) T (0,0)):=by
      show (w.heap.modify k.r _)[k.r]? =_;rw [Array.getElem?_modify,if_pos rfl,o5];rfl
     have key:=hh.set (w':=Sort.putRow encStr (Sort.ahead w n) k.r (k.base+0*k.n) d.toArray) (.cells 1 (d.map aO)) hk hb (by simp) (by show (w.heap.modify k.r _).size=_;rw [Array.size_modify]) (fun r hr=>by
       show (w.heap.modify k.r _)[r]? =_;rw [Array.getElem?_modify,if_neg (Ne.symm hr)]) rfl rfl rfl (fun O' hm=>by
      refine⟨hkn,by omega,by rw [List.length_map,hdl];simpa using o3,fun i e he=> ?_,_,T,hw1,?_,fun i e c x he hx=> ?_⟩
      ·obtain⟨s,_,rfl⟩:=List.mem_map.1 (zF he);exact hkn.symm
      ·rw [Sort.putCells,Array.size_mapIdx];exact o6
      ·rw [List.getElem?_map,Option.map_eq_some_iff] at he;obtain⟨s,hs,rfl⟩:=he;have hil:=(zA.1 hs).1
       cases c with
       | zero=>
        obtain rfl:=Option.some.inj hx;refine⟨encStr s,?_,rfl,.str s⟩;obtain⟨s0,hs0,_⟩: ∃s0,ss[i]? =some s0∧True:=⟨_,zB (by omega),trivial⟩;rw [Sort.putCells,Array.getElem?_mapIdx,hkn,show k.base+(i*1+0)=k.base+i by omega,cellv i s0 hs0,Option.map_some,if_pos (by simp;omega)];have e1:k.base+i - (k.base+0*1)=i:=by omega
        have e2:d.toArray[i]! =s:=by
         rw [getElem!_pos d.toArray i (by simpa using hil)];simpa using (zA.1 hs).2
        rw [e1,e2]
       | succ c=>simp [aO] at hx)
     obtain⟨r1,ev1⟩:=key;obtain⟨r2,ev2⟩:=Jc r1 os;exact⟨.tup [],_,J,_,rfl,r2,.tup [] [] rfl (by simp),ev1.trans ev2,rfl,rfl⟩
theorem Tg {P:Program} {ρ:Ren} {gl:aM} {h:af} (Ly:SlLaysM.n6 P ρ) {lo:Nat} {x:AV} (ss:List (List UInt8))(hx:Ls 1 lo h x (ss.map aO))(hl:ss.length<4611686018427387904):
  aa P gl (ρ.f 6) [x] h fun v h'=>v= .tup []∧Ls 1 lo h' x ((ku ss).map aO)∧h'.length=h.length∧ ∀(b:Nat) (o:bY),h[b]? =some o→(∀off len,x≠ .own b off len)→h'[b]? =some o:=by
 rcases hx.1 with⟨rfl,he⟩ | ⟨b,rfl,hlb,hb⟩
 ·have he:ss=[]:=by simpa using he
  subst he;refine⟨?_,fun J w vs hh hv=> ?_⟩
  ·obtain⟨nm,hn,hf⟩:=Ly.f6;exact⟨_,hf,rfl,hn⟩
  ·obtain⟨hvl,hvr⟩:=hv
   match vs,hvl with
   | [v],_=>
    have hr:=hvr 0 _ v rfl rfl
    cases hr with
    | nil=>
     refine Calls.mono' (AnyM.slices_Sort_string_none Ly none 0 w) ?_;rintro e w' ⟨rfl,rfl⟩;exact⟨.tup [],_,J,h,rfl,hh,.tup [] [] rfl (by simp),iK.refl _ _ _,rfl,by rw [show ku []=[] from List.mergeSort_nil];simpa using Ls.nil,rfl,fun _ _ ho _=>ho⟩
 ·rw [List.length_map] at*;refine (Rw Ly b ss hb hl).mono ?_;rintro v h' ⟨rfl,rfl⟩;refine⟨rfl,?_,by simp,fun b' o ho hne=> ?_⟩
  ·refine Ls.own (zI (zA.1 hb).1) hlb (by simp [ku]) fun e he=> ?_;obtain⟨s,_,rfl⟩:=List.mem_map.1 he;rfl
  ·rw [zJ (by rintro rfl;exact hne _ _ rfl)];exact ho
end Go.Abs
end
section
namespace Go.Proofs.YtkpioblbeiaefaaGreat
open Go Go.Abs Go.Shelf Go.Proofs
def Rv:Ren:=⟨fun | 6=>84 | 8=>122 | 9=>121 | 19=>159 | 20=>160 | 21=>150 | 22=>151 | 23=>152 | 24=>153 | 25=>154 | 26=>155 | 27=>156 | 28=>157 | 29=>158 | 36=>174 | 31=>175 | 32=>176 | 37=>177 | 38=>178 | 39=>104 | 41=>192 | n=>n,fun | 27=>46 | 29=>9 | 3=>3 | 32=>160 | 26=>46 | 0=>0 | 44=>198 | 46=>200 | 4=>4 | 36=>191 | 35=>190 | 41=>195 | 5=>5 | 9=>9 | 53=>213 | 57=>217 | 63=>234 | 64=>235 | n=>n,fun n=>n⟩
theorem Pk:SlLaysM.n6 Tryz.prog Rv:= {
 mixed:=by kernel_rfl,
 f6:=⟨Tryz.f84.name,by decide,Tryz.func84.trans (congrArg some (by kernel_rfl))⟩,
 f8:=Tryz.func122.trans (congrArg some (by kernel_rfl)),
 f9:=⟨Tryz.f121.name,by decide,Tryz.func121.trans (congrArg some (by kernel_rfl))⟩,
 f19:=Tryz.func159.trans (congrArg some (by kernel_rfl)),
 f20:=Tryz.func160.trans (congrArg some (by kernel_rfl)),
 f21:=⟨Tryz.f150.name,by decide,Tryz.func150.trans (congrArg some (by kernel_rfl))⟩,
 f22:=⟨Tryz.f151.name,by decide,Tryz.func151.trans (congrArg some (by kernel_rfl))⟩,
 f23:=⟨Tryz.f152.name,by decide,Tryz.func152.trans (congrArg some (by kernel_rfl))⟩,
 f24:=⟨Tryz.f153.name,by decide,Tryz.func153.trans (congrArg some (by kernel_rfl))⟩,
 f25:=⟨Tryz.f154.name,by decide,Tryz.func154.trans (congrArg some (by kernel_rfl))⟩,
 f26:=⟨Tryz.f155.name,by decide,Tryz.func155.trans (congrArg some (by kernel_rfl))⟩,
 f27:=⟨Tryz.f156.name,by decide,Tryz.func156.trans (congrArg some (by kernel_rfl))⟩,
 f28:=⟨Tryz.f157.name,by decide,Tryz.func157.trans (congrArg some (by kernel_rfl))⟩,
 f29:=⟨Tryz.f158.name,by decide,Tryz.func158.trans (congrArg some (by kernel_rfl))⟩,
 f31:=Tryz.func175.trans (congrArg some (by kernel_rfl)),
 f32:=Tryz.func176.trans (congrArg some (by kernel_rfl)),
 f36:=⟨Tryz.f174.name,by decide,Tryz.func174.trans (congrArg some (by kernel_rfl))⟩,
 f37:=⟨Tryz.f177.name,by decide,Tryz.func177.trans (congrArg some (by kernel_rfl))⟩,
 f38:=⟨Tryz.f178.name,by decide,Tryz.func178.trans (congrArg some (by kernel_rfl))⟩,
 f39:=⟨Tryz.f104.name,by decide,Tryz.func104.trans (congrArg some (by kernel_rfl))⟩,
 f41:=⟨Tryz.f192.name,by decide,Tryz.func192.trans (congrArg some (by kernel_rfl))⟩,
 t0:=Tryz.underlying0,
 a0:=Tryz.isAgg0,
 z0:=Tryz.sizeOf0,
 v0:=Tryz.zeroValue0,
 t3:=Tryz.underlying3,
 a3:=Tryz.isAgg3,
 z3:=Tryz.sizeOf3,
 v3:=Tryz.zeroValue3,
 t4:=Tryz.underlying4,
 a4:=Tryz.isAgg4,
 z4:=Tryz.sizeOf4,
 v4:=Tryz.zeroValue4,
 t5:=Tryz.underlying5,
 a5:=Tryz.isAgg5,
 z5:=Tryz.sizeOf5,
 v5:=Tryz.zeroValue5,
 t9:=Tryz.underlying9,
 a9:=Tryz.isAgg9,
 z9:=Tryz.sizeOf9,
 v9:=Tryz.zeroValue9,
 t26:=Tryz.underlying46,
 a26:=Tryz.isAgg46,
 z26:=Tryz.sizeOf46,
 v26:=Tryz.zeroValue46,
 t27:=Tryz.underlying46,
 a27:=Tryz.isAgg46,
 z27:=Tryz.sizeOf46,
 v27:=Tryz.zeroValue46,
 t29:=Tryz.underlying9,
 a29:=Tryz.isAgg9,
 z29:=Tryz.sizeOf9,
 v29:=Tryz.zeroValue9,
 t32:=Tryz.underlying160,
 a32:=Tryz.isAgg160,
 z32:=Tryz.sizeOf160,
 v32:=Tryz.zeroValue160,
 t35:=Tryz.underlying190,
 a35:=Tryz.isAgg190,
 z35:=Tryz.sizeOf190,
 v35:=Tryz.zeroValue190,
 t36:=Tryz.underlying191,
 a36:=Tryz.isAgg191,
 z36:=Tryz.sizeOf191,
 v36:=Tryz.zeroValue191,
 t41:=Tryz.underlying195,
 a41:=Tryz.isAgg195,
 z41:=Tryz.sizeOf195,
 v41:=Tryz.zeroValue195,
 t44:=Tryz.underlying198,
 a44:=Tryz.isAgg198,
 z44:=Tryz.sizeOf198,
 v44:=Tryz.zeroValue198,
 t46:=Tryz.underlying200,
 a46:=Tryz.isAgg200,
 z46:=Tryz.sizeOf200,
 v46:=Tryz.zeroValue200,
 t53:=Tryz.underlying213,
 a53:=Tryz.isAgg213,
 z53:=Tryz.sizeOf213,
 v53:=Tryz.zeroValue213,
 t57:=Tryz.underlying217,
 a57:=Tryz.isAgg217,
 z57:=Tryz.sizeOf217,
 v57:=Tryz.zeroValue217,
 t63:=Tryz.underlying234,
 a63:=Tryz.isAgg234,
 z63:=Tryz.sizeOf234,
 v63:=Tryz.zeroValue234,
 t64:=Tryz.underlying235,
 a64:=Tryz.isAgg235,
 z64:=Tryz.sizeOf235,
 v64:=Tryz.zeroValue235
}
theorem xI {gl:aM} {h:af} {lo:Nat} {x:AV} (ss:List (List UInt8))(hx:Ls 1 lo h x (ss.map aO))(hl:ss.length<4611686018427387904):
  aa Tryz.prog gl 84 [x] h fun v h'=>v= .tup []∧Ls 1 lo h' x ((ku ss).map aO)∧h'.length=h.length∧ ∀(b:Nat) (o:bY),h[b]? =some o→(∀off len,x≠ .own b off len)→h'[b]? =some o:=Tg Pk ss hx hl
end Go.Proofs.YtkpioblbeiaefaaGreat
end
section
namespace Go.Proofs.YtkpioblbeiaefaaGreat
open Go Go.Abs Go.Toll
variable {gl : aM} {h : af}
def encS' (s:Bytes):AV:= .str s
theorem Jt {m:List (Bytes×Bytes)} (s:Bytes):bg Tryz.prog 9 (.str s) (sM encS' m):=by
 refine⟨by simp [dE],[.str],by simp,by simp,fun p hp=> ?_⟩;obtain⟨q,_,rfl⟩:=yA _ hp;simp
theorem Jr {m:List (Bytes×Bool)} (s:Bytes):bg Tryz.prog 9 (.str s) (sM AV.bool m):=by
 refine⟨by simp [dE],[.str],by simp,by simp,fun p hp=> ?_⟩;obtain⟨q,_,rfl⟩:=yA _ hp;simp
theorem Qw (m:List (Bytes×Bool))(s:Bytes):(gp (sM AV.bool m) (.str s)).getD (.bool false)= .bool (uT m s):=by
 rw [jP,uT];cases ik m s <;> rfl
theorem Vb (m:List (Bytes×Bytes))(s:Bytes):(gp (sM encS' m) (.str s)).getD (.str [])= .str ((ik m s).getD []):=by
 rw [jP];cases ik m s <;> rfl
theorem MQ (b:Nat)(a c:Bytes)(hb:h[b]? =some (.cells 1 [[.str a],[.str c]])):aa Tryz.prog gl 67 [.own b 0 2] h fun v h'=>v= .str (OQ a c)∧h'=h:=by
 refine aa.data (by simp) (aa.body Tryz.f67 _ mixed Tryz.func67 rfl rfl (by simp [Tryz.ntmps67]) ?_);have hb3:=at3 hb;simp [hb3];refine aT.up mixed 2 (fun i fr H=>fr 3= .str []∧fr 6= .own b 0 2∧fr 7= .int .i64 2∧fr 8= .int .i64 i∧(1≤i→a=[])∧(2≤i→c=[])∧H=h) 0 (by omega) ⟨by simp,by simp,by simp,by simp,by omega,by omega,rfl⟩ ?_;rintro i fr H hi ⟨e3,e6,e7,e8,ha,hc,rfl⟩;obtain rfl | rfl | rfl:i=0∨i=1∨i=2:=by omega
 ·by_cases q:a=[]
  ·have ew:=aB (i:=0) (by omega);simp at ew;simp [e3,e6,e7,e8,hb3,q,ew];exact⟨1,by omega,by omega,by omega,by omega⟩
  ·simp [e3,e6,e7,e8,hb3,q,OQ]
 ·have ha':=ha (by omega);by_cases q:c=[]
  ·have ew:=aB (i:=1) (by omega);simp at ew;simp [e3,e6,e7,e8,hb3,q,ha',ew];exact⟨2,by omega,by omega,by omega⟩
  ·simp [e3,e6,e7,e8,hb3,q,ha',OQ]
 ·have ha':=ha (by omega);have hc':=hc (by omega);simp [e3,e6,e7,e8,hb3,ha',hc',OQ]
theorem Af (p:ay):aa Tryz.prog gl 37 [.agg (ae p)] h fun v h'=>v= .str (Nu p)∧h'=h:=by
 refine aa.data (by simp) (aa.body Tryz.f37 _ mixed Tryz.func37 rfl rfl (by simp [Tryz.ntmps37]) ?_);simp [ae];refine ax.pure _ (fun _=>MQ (h.length+1) p.tag p.plate (by simp)) ?_;simp [Nu]
theorem Kj (p:ay):aa Tryz.prog gl 36 [.agg (ae p)] h fun v h'=>v= .bool (!decide (p.tag=[]))∧h'=h:=by
 refine aa.data (by simp) (aa.body Tryz.f36 _ mixed Tryz.func36 rfl rfl (by simp [Tryz.ntmps36]) ?_);by_cases c:p.tag=[] <;> simp [ae,c]
def Ke (l:List ay):Int:=match l.findIdx? (fun p=> !decide (p.tag=[])) with
 | some i=>i
 | none=> -1
theorem yK (l:List ay)(hl:l.length≤1000000):aa Tryz.prog gl 35 [.ro (l.map ae),.fn (.func 36) [] []] h fun v h'=>v= .int .i64 (Ke l)∧h'=h:=by
 refine aa.data (by simp) (aa.body Tryz.f35 _ mixed Tryz.func35 rfl rfl (by simp [Tryz.ntmps35]) ?_);simp;refine aT.up mixed l.length (fun i fr H=>fr 0= .ro (l.map ae)∧fr 1= .fn (.func 36) [] []∧fr 7= .int .i64 l.length∧fr 8= .int .i64 i∧(∀j p,j<i→l[j]? =some p→p.tag=[])∧ ∃g,H=h++g) 0 (by omega)
  ⟨by simp,by simp,by simp,by simp,by omega,[],by simp⟩ ?_
 rintro i fr H hi ⟨e0,e1,e7,e8,ha,g,rfl⟩;rcases zN i l.length with hlt | hge
 ·obtain⟨p,hp,hp'⟩:=aJ hlt;have ew:=aB (i:=i) (by omega);have hltI:(i:Int)<l.length:=by omega
  simp [e0,e1,e7,e8,hlt,hltI,hp,hp',ae];refine ax.pure _ (fun _=>by simpa [ae] using Kj p) ?_;by_cases q:p.tag=[]
  ·simp [e0,e1,e7,e8,q,ew];refine⟨i+1,by omega,by omega,by omega,fun j p' hj hp2=> ?_⟩;rcases zN j i with hji | hji
   ·exact ha j p' hji hp2
   ·obtain rfl:j=i:=by omega
    rw [hp] at hp2;cases hp2;exact q
  ·simp [e0,e1,e7,e8,q];have:l.findIdx? (fun p=> !decide (p.tag=[]))=some i:=by
    rw [List.findIdx?_eq_some_iff_getElem];refine⟨hlt,by rw [hp'];simpa using q,fun j hj=> ?_⟩;have:=ha j l[j] hj (zB (by omega));simp [this]
   rw [Ke,this]
 ·obtain rfl:i=l.length:=by omega
  simp [e0,e1,e7,e8];have:l.findIdx? (fun p=> !decide (p.tag=[]))=none:=by
   rw [List.findIdx?_eq_none_iff];intro p hp;obtain⟨j,hj⟩:=List.getElem?_of_mem hp;have:=ha j p (aK hj) hj;simp [this]
  rw [Ke,this]
set_option maxHeartbeats 2000000 in
theorem xB (l:List ay)(hl:l.length≤1000000):aa Tryz.prog gl 82 [.ro (l.map ae)] h fun v h'=>v= .map h.length∧ ∃g,h'=h++ .map (sM encS' (iU l l.length))::g:=by
 refine aa.body Tryz.f82 _ mixed Tryz.func82 rfl rfl (by simp [Tryz.ntmps82]) ?_;simp;refine aT.up mixed l.length (fun i fr H=>fr 3= .map h.length∧fr 9= .ro (l.map ae)∧fr 10= .int .i64 l.length∧fr 11= .int .i64 i∧ ∃g,H=h++ .map (sM encS' (iU l i))::g) 0 (by omega)
  ⟨by simp,by simp,by simp,by simp,[],by simp [iU,sM]⟩ ?_
 rintro i fr H hi ⟨e3,e9,e10,e11,g,rfl⟩;rcases zN i l.length with hlt | hge
 ·obtain⟨p,hp,hp'⟩:=aJ hlt;have ew:=aB (i:=i) (by omega);have hltI:(i:Int)<l.length:=by omega
  have hko:=Jt (m:=iU l i) p.plate;have hs:=wM encS' (iU l i) p.plate;have hs1:=hs p.tag;have hs2:=hs [];simp only [encS'] at hs1 hs2;by_cases c1:p.tag=[]
  ·have et:iU l (i+1)=iU l i:=by rw [uz hp,if_pos (.inl c1)]
   simp [av,-bg,e3,e9,e10,e11,hlt,hltI,hp,hp',c1,ew];exact⟨i+1,by omega,by omega,by omega,by rw [et]⟩
  ·by_cases c2:p.plate=[]
   ·have et:iU l (i+1)=iU l i:=by rw [uz hp,if_pos (.inr c2)]
    simp [av,-bg,e3,e9,e10,e11,hlt,hltI,hp,hp',c1,c2,ew];exact⟨i+1,by omega,by omega,by omega,by rw [et]⟩
   ·have et:iU l (i+1)=qE (iU l i) p.plate (if (ik (iU l i) p.plate).all (fun t=>decide (t=p.tag))=true then p.tag else []):=by rw [uz hp,if_neg (by simp [c1,c2])]
    cases hg:ik (iU l i) p.plate with
    | none=>
     rw [hg] at et;simp at et;simp [av,-bg,e3,e9,e10,e11,hlt,hltI,hp,hp',c1,c2,ew,hko,jP,hg,hs1];exact⟨i+1,by omega,by omega,by omega,by rw [et]⟩
    | some t=>
     rw [hg] at et;by_cases c3:t=p.tag
     ·simp [c3] at et;simp [av,-bg,e3,e9,e10,e11,hlt,hltI,hp,hp',c1,c2,c3,ew,hko,jP,hg,hs1,encS'];exact⟨i+1,by omega,by omega,by omega,by rw [et]⟩
     ·simp [c3] at et;simp [av,-bg,e3,e9,e10,e11,hlt,hltI,hp,hp',c1,c2,c3,ew,hko,jP,hg,hs2,encS'];exact⟨i+1,by omega,by omega,by omega,by rw [et]⟩
 ·obtain rfl:i=l.length:=by omega
  simp [av,-bg,e3,e9,e10,e11]
theorem uX (l:List ay)(p:ay)(m:Nat)(hm:h[m]? =some (.map (sM encS' (iU l l.length)))):aa Tryz.prog gl 83 [.agg (ae p),.map m] h fun v h'=>v= .str (bG l p)∧h'=h:=by
 refine aa.data (by simp) (aa.body Tryz.f83 _ mixed Tryz.func83 rfl rfl (by simp [Tryz.ntmps83]) ?_);have hm3:=at3 hm;have hko:=Jt (m:=iU l l.length) p.plate;have hlk:=Vb (iU l l.length) p.plate;by_cases c1:p.tag=[]
 ·by_cases c2:p.plate=[]
  ·simp [av,-bg,c1,c2,bG]
  ·have eg:=Kc (l:=l) c2 l.length;rw [List.take_length] at eg;simp [av,-bg,c1,c2,hm3,hko,hlk];refine ax.pure (.str (OQ ((ik (iU l l.length) p.plate).getD []) p.plate)) (fun _=> ?_) ?_
   ·exact MQ (h.length+1) ((ik (iU l l.length) p.plate).getD []) p.plate (by simp)
   ·simp [bG,c1,c2,eg]
 ·simp [av,-bg,c1,bG]
set_option maxHeartbeats 4000000 in
theorem LG (l:List ay)(v:Bytes)(hok: ∀p∈l,p.Ok∧p.sources.length≤1000)(hn:l.length<20):aa Tryz.prog gl 43 [.ro (l.map ae),.str v] h fun x h'=>x= .ro ((jM l v).map ae)∧h'=h:=by
 refine aa.fresh' (aa.body Tryz.f43 _ mixed Tryz.func43 rfl rfl (by simp [Tryz.ntmps43]) ?_);by_cases hv:v=[]
 ·simp [hv,jM];exact .nil
 ·simp [hv];refine ax.any (xB l (by omega)) ?_;rintro m h1 ⟨rfl,g1,hh1⟩;have hm1:h1[h.length]? =some (.map (sM encS' (iU l l.length))):=by rw [hh1];simp
  have hb1: ∃g,h1=h++g:=⟨_,hh1⟩;have hln:=aK hm1;clear hh1;simp;refine aT.up mixed l.length (fun i fr H=>fr 1= .str v∧fr 5= .map h.length∧fr 13= .ro (l.map ae)∧fr 14= .int .i64 l.length∧fr 15= .int .i64 i∧(∃g,H=h1++g)∧ ∃y,fr 6=y∧Ls 8 h1.length H y ((Hd l v i).map ae)) 0 (by omega)
   ⟨by simp,by simp,by simp,by simp,by simp,⟨[],by simp⟩,.nil,by simp,by simpa [Hd] using Ls.nil⟩ ?_
  rintro i fr H hi ⟨e1,e5,e13,e14,e15,⟨g,rfl⟩,y,e6,hy⟩;rcases zN i l.length with hlt | hge
  ·obtain⟨p,hp,hp'⟩:=aJ hlt;have ew:=aB (i:=i) (by omega);have hltI:(i:Int)<l.length:=by omega
   have hyf:=hy.rs.fix;have hlen:=AC l v i;simp [-aj,-au,-ah,-AV.solid,e1,e5,e6,e13,e14,e15,hlt,hltI,hp,hp',ae];refine ax.pure _ (fun _=>uX l p h.length (aP hm1 _)) ?_;by_cases c:bG l p=v
   ·have eo:Hd l v (i+1)=Hd l v i++[p]:=by rw [Cu hp,if_pos c]
    simp [-aj,-au,-ah,-AV.solid,e1,e5,e6,e13,e14,e15,c,hyf];refine aN (lo:=h1.length) (n:=8) (es:=(Hd l v i).map ae) (ys:=[ae p]) (by simpa [ae] using (hy.more [.cells 8 [ae p],.cells 8 [ae p]])) (by simp) (by simp [bE,ae]) (by simp;omega) ?_;intro s1 H1 hs1 hg1 hn1;have hs1f:=hs1.rs.fix;have hB1:=hg1.base h1 (by omega) (by simpa [ae] using ⟨_,rfl⟩);simp [-aj,-au,-ah,-AV.solid,e1,e5,e6,e13,e14,e15,hs1f,ew];exact⟨i+1,by omega,by omega,by omega,hB1,by rw [eo];simpa using hs1⟩
   ·have eo:Hd l v (i+1)=Hd l v i:=by rw [Cu hp,if_neg c]
    simp [-aj,-au,-ah,-AV.solid,e1,e5,e6,e13,e14,e15,c,hyf,ew];refine⟨i+1,by omega,by omega,by omega,?_⟩;rw [eo];simpa [ae] using hy.more [.cells 8 [ae p]]
  ·obtain rfl:i=l.length:=by omega
   have hlen:=AC l v l.length;simp [-aj,-au,-ah,-AV.solid,e1,e5,e6,e13,e14,e15,hy.rs.fix];refine ax.pure _ (fun _=>xA _ hy.rs (fun p hp=>hok p (AJ hp).1) (by omega)) ?_;simp;obtain⟨g1,rfl⟩:=hb1;refine⟨⟨_,by rw [zK]⟩,?_⟩;rw [jM,if_neg hv];exact .data _ (.ro _ (pI fun p hp=>(hok p (AJ (lh.1 hp)).1).1))
set_option maxHeartbeats 4000000 in
theorem yF (l:List ay)(hn:l.length<20):aa Tryz.prog gl 42 [.ro (l.map ae)] h fun x h'=>x= .ro ((dI l).map aO)∧h'=h:=by
 refine aa.fresh' (aa.body Tryz.f42 _ mixed Tryz.func42 rfl rfl (by simp [Tryz.ntmps42]) ?_);simp;refine ax.any (xB l (by omega)) ?_;rintro m h1 ⟨rfl,g1,hh1⟩;have hm1:h1[h.length]? =some (.map (sM encS' (iU l l.length))):=by rw [hh1];simp
 have hb1: ∃g,h1=h++g:=⟨_,hh1⟩;have hln:=aK hm1;clear hh1;simp;refine aT.up mixed l.length (fun i fr H=>fr 3= .map h.length∧fr 4= .map h1.length∧fr 12= .ro (l.map ae)∧fr 13= .int .i64 l.length∧fr 14= .int .i64 i∧(∃g,H=h1++g)∧
   (∃m,H[h1.length]? =some (.map (sM AV.bool m))∧ ∀s,uT m s=decide (s∈jh l i))∧ ∃y,fr 5=y∧Ls 1 (h1.length+1) H y ((jh l i).map aO)) 0 (by omega)
  ⟨by simp,by simp,by simp,by simp,by simp,⟨[.map []],by simp⟩,⟨[],by simp [sM],by simp [uT,ik,jh]⟩,.nil,by simp,by simpa [jh] using Ls.nil⟩ ?_
 rintro i fr H hi ⟨e3,e4,e12,e13,e14,⟨g,hH⟩,⟨mm,hM,hmm⟩,y,e5,hy⟩;have hm2:H[h.length]? =some (.map (sM encS' (iU l l.length))):=by rw [hH];exact aP hm1 _
 have hlH:=aK hM;rcases zN i l.length with hlt | hge
 ·obtain⟨p,hp,hp'⟩:=aJ hlt;have ew:=aB (i:=i) (by omega);have hltI:(i:Int)<l.length:=by omega
  have hyf:=hy.rs.fix;have hlen:=xP l i;simp [av,-bg,-aj,-au,-ah,-AV.solid,e3,e4,e5,e12,e13,e14,hlt,hltI,hp,hp',ae];refine ax.pure _ (fun _=>uX l p h.length (aP hm2 _)) ?_;have hv:=PG hp;have hM3:=at3 (aP hM [.cells 8 [ae p]]);simp only [dz] at hM3;generalize bG l p=v at*;have hko:=Jr (m:=mm) v;have hlk:=Qw mm v;rw [hmm v] at hlk;by_cases c1:v=[]
  ·rw [if_pos (.inl c1)] at hv;simp [av,-bg,-aj,-au,-ah,-AV.solid,e3,e4,e5,e12,e13,e14,c1,ew];refine⟨i+1,by omega,by omega,by omega,aI ⟨g,hH⟩ _,⟨mm,by simpa using hM3.1,by rw [hv];exact hmm⟩,?_⟩;rw [hv];simpa using hy.more [.cells 8 [ae p]]
  ·by_cases c2:v∈jh l i
   ·rw [if_pos (.inr c2)] at hv;simp [av,-bg,-aj,-au,-ah,-AV.solid,e3,e4,e5,e12,e13,e14,c1,c2,ew,hM3,hko,hlk];refine⟨i+1,by omega,by omega,by omega,aI ⟨g,hH⟩ _,⟨mm,by simpa using hM3.1,by rw [hv];exact hmm⟩,?_⟩;rw [hv];simpa using hy.more [.cells 8 [ae p]]
   ·rw [if_neg (by simp [c1,c2])] at hv;have hset:=wM AV.bool mm v true;simp [av,-bg,-aj,-au,-ah,-AV.solid,e3,e4,e5,e12,e13,e14,c1,c2,hM3,hko,hlk,hset,hyf,hlH];obtain⟨H1,hH1⟩: ∃H1:af,H1=(H.set h1.length (.map (sM AV.bool (qE mm v true))))++[.cells 8 [ae p],.cells 1 [[.str v]]]:=⟨_,rfl⟩;have hH1':=hH1;simp only [dz] at hH1';have hy1:Ls 1 (h1.length+1) H1 y ((jh l i).map aO):=by rw [hH1];exact (hy.put (by omega)).more _
    have hb2: ∃g,H1=h1++g:=by rw [hH1];exact aI (dA ⟨g,hH⟩ (by omega) _) _
    have hM1:H1[h1.length]? =some (.map (sM AV.bool (qE mm v true))):=by rw [hH1];exact aP (zI hlH) _
    have hl1:=aK hM1;refine aN (lo:=h1.length+1) (n:=1) (es:=(jh l i).map aO) (ys:=[aO v]) (by rw [←hH1'];exact hy1) (by rw [←hH1'];omega) (by simp [bE,aO]) (by simp;omega) ?_;intro s1 H2 hs1 hg1 hn1;rw [←hH1'] at hg1;have hs1f:=hs1.rs.fix;have hB2:=hg1.base h1 (by omega) hb2;have hM2:=hg1.keep _ _ hM1 (kT hy1 hM1);simp [-aj,-au,-ah,-AV.solid,e3,e4,e5,e12,e13,e14,hs1f,ew];refine⟨i+1,by omega,by omega,by omega,hB2,⟨_,hM2,fun s=> ?_⟩,by rw [hv];simpa using hs1⟩;rw [E9,hmm,hv,Bool.eq_iff_iff];simp [or_comm]
 ·obtain rfl:i=l.length:=by omega
  have hlen:=xP l l.length;simp [-aj,-au,-ah,-AV.solid,e3,e4,e5,e12,e13,e14,hy.rs.fix];refine ax.any (xI (jh l l.length) hy (by omega)) ?_;rintro v h2 ⟨rfl,hy2,hl2,hk2⟩;have hb2: ∃g,h2=h++g:=by
   obtain⟨g0,rfl⟩:=hb1;subst hH;refine jR ⟨g0++g,by rw [zK]⟩ (fun b o hb ho=>hk2 b o ho fun off len e=> ?_) (by rw [hl2];simp);have:=hy.above _ _ _ e;simp at this;omega
  simp [-aj,-au,-ah,-AV.solid,e3,e4,e5,e12,e13,e14,hy2.rs.fix];exact⟨hb2,hy2.frz (by omega) (gM _)⟩
set_option maxHeartbeats 4000000 in
theorem FZ (l:List ay) {x:AV} (hx:Rs 8 h x (l.map ae))(hok: ∀p∈l,p.Ok∧p.sources.length≤1000)(hn:l.length<20):aa Tryz.prog gl 34 [x] h fun v h'=>v= .ro ((aW l).map ae)∧h'=h:=by
 refine aa.fresh' (aa.body Tryz.f34 _ mixed Tryz.func34 rfl rfl (by simp [Tryz.ntmps34]) ?_);have hx1:=hx.append [.map []];simp [hx.fix];refine ax.pure _ (fun _=>xA l hx1 hok hn) ?_;have hSl:(dC l).length=l.length:=mZ l;have hSm: ∀p∈aW l,p∈l:=fun p hp=>by
  have:=kU hp;rw [List.take_length] at this;exact lh.1 this
 have hon:aW l=dX (dC l) (dC l).length:=rfl;generalize dC l=S at*;simp;refine aT.up mixed S.length (fun i fr H=>fr 3= .map h.length∧fr 9= .ro (S.map ae)∧fr 10= .int .i64 S.length∧fr 11= .int .i64 i∧(∃g,H=h++g)∧
   (∃m,H[h.length]? =some (.map (sM AV.bool m))∧ ∀s,uT m s=(S.take i).any fun q=>decide (q.id=s))∧ ∃y,fr 4=y∧Ls 8 (h.length+1) H y ((dX S i).map ae)) 0 (by omega)
  ⟨by simp,by simp,by simp,by simp,⟨_,rfl⟩,⟨[],by simp [sM],by simp [uT,ik]⟩,.nil,by simp,by simpa [dX] using Ls.nil⟩ ?_
 rintro i fr H hi ⟨e3,e9,e10,e11,⟨g,hH⟩,⟨mm,hM,hmm⟩,y,e4,hy⟩;have hlH:=aK hM;rcases zN i S.length with hlt | hge
 ·obtain⟨p,hp,hp'⟩:=aJ hlt;have ew:=aB (i:=i) (by omega);have hltI:(i:Int)<S.length:=by omega
  have hyf:=hy.rs.fix;have hlen:=pE S i;have hM3:=at3 (aP hM [.cells 8 [ae p]]);simp only [dz] at hM3;have hko:=Jr (m:=mm) p.id;have hlk:=Qw mm p.id;rw [hmm p.id] at hlk;have ho:=vT hp;have ht: ∀s,((S.take (i+1)).any fun q=>decide (q.id=s))=(((S.take i).any fun q=>decide (q.id=s)) || decide (p.id=s)):=fun s=>by rw [zM,hp];simp
  unfold zQ at ho;by_cases c:((S.take i).any fun q=>decide (q.id=p.id))=true
  ·rw [if_pos c] at ho;rw [c] at hlk;simp [av,-bg,-aj,-au,-ah,-AV.solid,-List.any_eq_true,e3,e4,e9,e10,e11,hlt,hltI,hp,hp',hM3,hko,hlk,ew];refine⟨i+1,by omega,by omega,by omega,aI ⟨g,hH⟩ _,⟨mm,by simpa using hM3.1,fun s=> ?_⟩,?_⟩
   ·rw [hmm,ht];by_cases e:p.id=s
    ·subst e;rw [c];rfl
    ·simp [e]
   ·rw [ho];simpa using hy.more [.cells 8 [ae p]]
  ·rw [if_neg c] at ho;have c':((S.take i).any fun q=>decide (q.id=p.id))=false:=by simpa using c
   rw [c'] at hlk;have hset:=wM AV.bool mm p.id true;simp [av,-bg,-aj,-au,-ah,-AV.solid,-List.any_eq_true,e3,e4,e9,e10,e11,hlt,hltI,hp,hp',hM3,hko,hlk,hset,hyf,hlH];obtain⟨H1,hH1⟩: ∃H1:af,H1=(H.set h.length (.map (sM AV.bool (qE mm p.id true))))++[.cells 8 [ae p],.cells 8 [ae p]]:=⟨_,rfl⟩;have hH1':=hH1;simp only [dz] at hH1';have hy1:Ls 8 (h.length+1) H1 y ((dX S i).map ae):=by rw [hH1];exact (hy.put (by omega)).more _
   have hb2: ∃g,H1=h++g:=by rw [hH1];exact aI (dA ⟨g,hH⟩ (by omega) _) _
   have hM1:H1[h.length]? =some (.map (sM AV.bool (qE mm p.id true))):=by rw [hH1];exact aP (zI hlH) _
   have hl1:=aK hM1;refine aN (lo:=h.length+1) (n:=8) (es:=(dX S i).map ae) (ys:=[ae p]) (by rw [←hH1'];exact hy1) (by rw [←hH1'];omega) (by simp [bE]) (by simp;omega) ?_;intro s1 H2 hs1 hg1 hn1;rw [←hH1'] at hg1;have hs1f:=hs1.rs.fix;have hB2:=hg1.base h (by omega) hb2;have hM2:=hg1.keep _ _ hM1 (kT hy1 hM1);simp [-aj,-au,-ah,-AV.solid,e3,e4,e9,e10,e11,hs1f,ew];refine⟨i+1,by omega,by omega,by omega,hB2,⟨_,hM2,fun s=> ?_⟩,by rw [ho];simpa using hs1⟩;rw [E9,hmm,ht,Bool.or_comm];congr 1
   rw [Bool.eq_iff_iff];simp [eq_comm]
 ·obtain rfl:i=S.length:=by omega
  simp [-aj,-au,-ah,-AV.solid,e3,e4,e9,e10,e11,hy.rs.fix];refine⟨⟨g,hH⟩,?_⟩;rw [hon];exact hy.frz (by omega) (pI fun p hp=>(hok p (hSm p (by rw [hon];exact hp))).1)
def xn:Nat→Option (List (Nat×Nat)):=fun id=>if id=0 then some [(3,13),(5,13),(7,13),(8,13)] else if id=1 then some [(3,10),(5,10),(7,10)] else if id=12 then some [(4,7)] else none
theorem Js {m:List (Bytes×Int)} (s:Bytes):bg Tryz.prog 9 (.str s) (sM encZ' m):=by
 refine⟨by simp [dE],[.str],by simp,by simp,fun p hp=> ?_⟩;obtain⟨q,_,rfl⟩:=yA _ hp;simp
def rV (m:List (Bytes×Int))(id:Bytes):Int:=(ik m id).getD 0
set_option maxHeartbeats 8000000 in
theorem Kv (l:List aX)(k:Nat)(before:Bytes) {t:aY} {veh:Bytes} {mb:Nat} {m:List (Bytes×Int)} {b lo:Nat} {tr ou op:AV} {w:bS} (hw:wJ t veh mb m b lo h tr ou op w)(hk:h[k]? =some (.cells 3 (l.map ak)))
  (hne:l≠[]) (hl:l.length≤1000) (hbl:before.length≤1000000) (hal: ∀x∈l,x.point.length≤1000000) (htr:w.trips.length≤1000000) (hopf:op.core=op∧op.gd=true∧op.solid=true∧ah op=[op]) (hp:t.net.pts.length≤1000) (hlk:t.net.lks.length≤1000) (hsy:t.sys.length≤1000):
  aa Tryz.prog gl 111 [.ptr b 0 0,.own k 0 l.length,.str before] h fun v h'=>v= .tup []∧(∃tr',wJ t veh mb m b lo h' tr' ou op { w with trips:=w.trips++[kz t veh (rV m) l before] })∧oD lo h h':=by
 refine aa.bodyL xn Tryz.f111 _ mixed Tryz.func111 rfl rfl (by simp [Tryz.ntmps111]) ?_;have hpos:=List.length_pos_iff.2 hne;obtain⟨a,ha,ha'⟩:=aJ hpos;have hb3:=at3 hw.blk;have hk3:=at3 hk;simp only [iV] at hb3;have sya:=fun (H:af)=>gU (gl:=gl) (h:=H) t a.point hp hlk hsy;have e1:jf t a.point=((fF t a.point).getD sys0).name:=rfl;have htm:kz t veh (rV m) l before=⟨if (bu l).headD []=[] then before++[43]++a.point else (bu l).headD [],veh,jf t a.point,max (Ac ((bu l).map (rV m))) 1,l⟩:=by
  have:l.headD ⟨[],0,[]⟩=a:=by cases l with
   | nil=>exact absurd rfl hne
   | cons x r=>simpa using ha
  simp only [kz,this]
 rw [htm,e1];clear htm e1;generalize (fF t a.point).getD sys0=y at*;generalize (fF t a.point).isSome=z at*;obtain⟨T,hT⟩: ∃T:bW,T=⟨if (bu l).headD []=[] then before++[43]++a.point else (bu l).headD [],veh,y.name,max (Ac ((bu l).map (rV m))) 1,l⟩:=⟨_,rfl⟩;rw [←hT];have hz1:=at3 (aP hw.blk [.cells 3 [[.str [],.bool false,.int .i64 0]]]);have hz2:=at3 (aP hk [.cells 3 [[.str [],.bool false,.int .i64 0]]]);have hz3:=at3 (aP hw.blk [.cells 3 [[.str y.name,.bool y.closed,.int .i64 y.most]]]);simp only [iV] at hz1 hz3;have hk4: ∀g:af,aa Tryz.prog gl 143 [.own k 0 l.length] (h++g) fun v h'=>v= .ro (l.map ak)∧h'=h++g:=fun g=>Dn l k (aP hk g) (by omega);simp [xn,-ah,-AV.solid,ak,hb3,hk3,hpos,ha,ha'];refine⟨by decide,?_⟩;refine ax.pure _ (fun _=>sya _) ?_;simp [xn,-ah,-AV.solid,ak,hb3,hk3,hz1,hz2,hz3,hpos,ha,ha'];refine⟨ax.pure _ (fun _=>sya _) (by simp),?_⟩;refine⟨by decide,?_⟩;refine ax.pure _ (fun _=>hk4 _) ?_;have hz4:=at3 (aP hw.blk [.cells 3 [[.str y.name,.bool y.closed,.int .i64 y.most]],.cells 5 [[.str [],.str [],.str [],.int .i64 0,.nil]]]);simp only [iV] at hz4;simp [xn,-ah,-AV.solid,ak,hz3,hz4];refine⟨ax.pure _ (fun _=>hk4 _) (by simp),?_⟩;have psg:=fun (H:af)=>vv (gl:=gl) (h:=H) ⟨[],veh,y.name,0,l⟩ (by show l.length≤_;omega);refine ax.pure _ (fun _=>by simpa [aD] using psg _) ?_;simp [xn,-ah,-AV.solid];obtain⟨c1,hc1⟩: ∃c1:bY,c1= .cells 3 [[.str y.name,.bool y.closed,.int .i64 y.most]]:=⟨_,rfl⟩;obtain⟨c2,hc2⟩: ∃c2:bY,c2= .cells 5 [[.str [],.str veh,.str y.name,.int .i64 0,.ro (l.map ak)]]:=⟨_,rfl⟩;rw [←hc1,←hc2];have hpl:=yC l;refine aT.upL xn mixed (bu l).length (fun i fr H=>fr 0= .ptr b 0 0∧fr 1= .own k 0 l.length∧fr 2= .str before∧fr 8= .ptr (h.length+1) 0 0∧fr 34= .ro ((bu l).map aO)∧fr 35= .int .i64 (bu l).length∧fr 36= .int .i64 i∧(∃g,H=h++c1::c2::g)∧ ∃z,fr 9=z∧Ls 1 (h.length+2) H z ((((bu l).take i).map (rV m)).map encI')) 0 (by omega)
  ⟨by simp,by simp,by simp,by simp,by simp,by simp,by simp,⟨[],rfl⟩,.nil,by simp,by simpa using Ls.nil⟩ ?_
 rintro i fr H hi ⟨e0,e1,e2,e8,e34,e35,e36,⟨g,rfl⟩,zz,e9,hzz⟩;have hzf:=hzz.rs.fix;have hbH:=at3 (aP hw.blk (c1::c2::g));have hmH:=at3 (aP hw.mp (c1::c2::g));simp only [iV] at hbH;rcases zN i (bu l).length with hlt | hge
 ·obtain⟨s,hs,hs'⟩:=aJ hlt;have ew:=aB (i:=i) (by omega);have hlk:((ik m s).map encZ').getD (.int .i64 0)= .int .i64 (rV m s):=by unfold rV;cases ik m s <;> rfl
  have hko:=Js (m:=m) s;have htk:(bu l).take (i+1)=(bu l).take i++[s]:=by rw [zM,hs];rfl
  have htl:=List.length_take_le i (bu l);simp [xn,-aj,-au,-ah,-AV.solid,-bg,aO,e0,e1,e2,e8,e9,e34,e35,e36,hlt,hs,hs',hbH,hmH,jP,hlk,hko,hzf];refine aN (lo:=h.length+2) (n:=1) (es:=((((bu l).take i).map (rV m)).map encI')) (ys:=[encI' (rV m s)]) (by simpa using hzz.more [.cells 1 [[.int .i64 (rV m s)]]]) (by simp <;> omega) (by simp [bE,encI']) (by simp <;> omega) ?_;intro s1 H1 hs1 hg1 hn1;have hs1f:=hs1.rs.fix;obtain⟨g',hg'⟩:=hg1.base (h++[c1,c2]) (by simp) ⟨g++[.cells 1 [[.int .i64 (rV m s)]]],by simp⟩;subst hg';simp [xn,-aj,-au,-ah,-AV.solid,e0,e1,e2,e8,e34,e35,e36,hs1f,ew];exact⟨i+1,by omega,by omega,by omega,by rw [←List.map_take,htk];simpa using hs1⟩
 ·obtain rfl:i=(bu l).length:=by omega
  rw [List.take_length] at hzz;simp [xn,-ah,-AV.solid,e0,e1,e2,e8,e9,e34,e35,e36,hzf];refine ax.pure _ (fun _=>Bh _ zz hzz.rs (by simp;omega)) ?_;have hTi:T.id=if (bu l).headD []=[] then before++[43]++a.point else (bu l).headD []:=by rw [hT]
  have hTr:T.veh=veh∧T.sys=y.name∧T.cls=max (Ac ((bu l).map (rV m))) 1∧T.stops=l:=by rw [hT];exact⟨rfl,rfl,rfl,rfl⟩
  clear hT;generalize Ac ((bu l).map (rV m))=M at*;subst hc1 hc2;have idc:=fun (H:af)=>Il (gl:=gl) (h:=H) ⟨[],veh,y.name,max M 1,l⟩ (by show l.length≤_;omega);have hid:Le ⟨[],veh,y.name,max M 1,l⟩=(bu l).headD []:=rfl;rw [hid] at idc;generalize (bu l).headD []=I at*;simp [xn,-ah,-AV.solid,e0,e1,e2,e8];refine ax.pure _ (fun _=>by simpa [aD] using idc _) ?_;obtain⟨c1,hc1⟩: ∃c1:bY,c1= .cells 3 [[.str y.name,.bool y.closed,.int .i64 y.most]]:=⟨_,rfl⟩;rw [←hc1];have hkq:=at3 (aP hk (c1:: .cells 5 [[.str I,.str veh,.str y.name,.int .i64 (max M 1),.ro (l.map ak)]]::g));have hapl:=hal a (zF ha);by_cases hI:I=[]
  ·rw [if_pos hI] at hTi;subst hI;have hGl: ∀g':af,T=T→True:=fun _ _=>trivial;obtain⟨G,hG⟩: ∃G:af,G=c1:: .cells 5 [[.str (before++43::a.point),.str veh,.str y.name,.int .i64 (max M 1),.ro (l.map ak)]]::g:=⟨_,rfl⟩;have hTc:aD T=[.str (before++43::a.point),.str veh,.str y.name,.int .i64 (max M 1),.ro (l.map ak)]:=by
    obtain⟨q1,q2,q3,q4⟩:=hTr;simp only [aD,hTi,q1,q2,q3,q4];simp
   have hbG:=aP hw.blk G;have hmG:=aP hw.mp G;have htG:=hw.trips.more G;have hoG:=hw.out.more G;have hlo:=hw.low;have hlo2:=aK hw.blk;have hKG:oD lo h (h++G):=(oD.refl lo h).more G;obtain⟨c3,hc3⟩: ∃c3:bY,c3= .cells 5 [aD T]:=⟨_,rfl⟩;have hbG3:=at3 hbG;have hbG4:=at3 (aP hbG [c3]);have htf:=hw.trips.rs.fix;have huf:=hw.out.rs.fix;simp only [iV] at hbG3 hbG4;rw [hTc] at hc3;rw [hG] at hbG3 hbG4;rw [hc3] at hbG4;simp only [zK,List.cons_append] at hbG3 hbG4;simp [xn,-aj,-au,-ah,-AV.solid,ak,e0,e1,e2,e8,hkq,hpos,ha,ha',hbG3,hbG4,htf];refine⟨by omega,by omega,by decide,?_⟩;have hHe:h++c1:: .cells 5 [[.str (before++43::a.point),.str veh,.str y.name,.int .i64 (max M 1),.ro (l.map ak)]]::(g++[.cells 5 [[.str (before++43::a.point),.str veh,.str y.name,.int .i64 (max M 1),.ro (l.map ak)]]])=h++(G++[c3]):=by rw [hG,hc3];simp
   have hap:bE Tryz.prog (h++(G++[c3])) [32,32] 5 (.own (h.length+(g.length+1+1)) 0 1) [aD T]:=by rw [hG,hc3,hTc];simp [bE]
   rw [hHe];have hB5:=aP hw.blk (G++[c3]);have hM5:=aP hw.mp (G++[c3]);have hT5:=hw.trips.more (G++[c3]);have hO5:=hw.out.more (G++[c3]);have hK5:=(oD.refl lo h).more (G++[c3]);have hlt5:=aK hB5;refine aN (lo:=lo) (n:=5) (es:=w.trips.map aD) (ys:=[aD T]) hT5 (by omega) hap (by simp;omega) ?_;intro s1 H1 hs1 hg1 hn1;have hs1f:=hs1.rs.fix;have hb1:=hg1.keep b _ hB5 (sS hT5 hB5 (by decide));have hm1:=hg1.keep mb _ hM5 (kT hT5 hM5);have ho1:=gQ hO5 hT5 (by decide) hg1;have hk1:=hK5.grow hT5 (by decide) hg1;have hb13:=at3 hb1;have hbq:=at3 hB5;simp only [iV] at hb13 hbq;simp [xn,-aj,-au,-ah,-AV.solid,e0,e1,e2,e8,hs1f,hb13,hbq,htf];refine⟨⟨s1,?_⟩,hk1.set hb1 (by decide) hlo _⟩;refine⟨?_,get_put hb1 hm1 (nX hb1 hm1),?_,iT ho1 hb1 (by decide) _,hw.low,hw.lom⟩
   ·rw [zI hb13.2.1];simp [iV]
   ·have:=iT hs1 hb1 (by decide) (.cells 10 [iV t veh mb s1 ou op w.before w.last]);simpa [iV] using this
  ·rw [if_neg hI] at hTi;have hGl: ∀g':af,T=T→True:=fun _ _=>trivial;obtain⟨G,hG⟩: ∃G:af,G=c1:: .cells 5 [[.str I,.str veh,.str y.name,.int .i64 (max M 1),.ro (l.map ak)]]::g:=⟨_,rfl⟩;have hTc:aD T=[.str I,.str veh,.str y.name,.int .i64 (max M 1),.ro (l.map ak)]:=by
    obtain⟨q1,q2,q3,q4⟩:=hTr;simp only [aD,hTi,q1,q2,q3,q4]
   have hbG:=aP hw.blk G;have hmG:=aP hw.mp G;have htG:=hw.trips.more G;have hoG:=hw.out.more G;have hlo:=hw.low;have hlo2:=aK hw.blk;have hKG:oD lo h (h++G):=(oD.refl lo h).more G;obtain⟨c3,hc3⟩: ∃c3:bY,c3= .cells 5 [aD T]:=⟨_,rfl⟩;have hbG3:=at3 hbG;have hbG4:=at3 (aP hbG [c3]);have htf:=hw.trips.rs.fix;have huf:=hw.out.rs.fix;simp only [iV] at hbG3 hbG4;rw [hTc] at hc3;rw [hG] at hbG3 hbG4;rw [hc3] at hbG4;simp only [zK,List.cons_append] at hbG3 hbG4;simp [xn,-aj,-au,-ah,-AV.solid,ak,e0,e1,e2,e8,hI,hbG3,hbG4,htf];refine⟨by decide,?_⟩;have hHe:h++c1:: .cells 5 [[.str I,.str veh,.str y.name,.int .i64 (max M 1),.ro (l.map ak)]]::(g++[.cells 5 [[.str I,.str veh,.str y.name,.int .i64 (max M 1),.ro (l.map ak)]]])=h++(G++[c3]):=by rw [hG,hc3];simp
   have hap:bE Tryz.prog (h++(G++[c3])) [32,32] 5 (.own (h.length+(g.length+1+1)) 0 1) [aD T]:=by rw [hG,hc3,hTc];simp [bE]
   rw [hHe];have hB5:=aP hw.blk (G++[c3]);have hM5:=aP hw.mp (G++[c3]);have hT5:=hw.trips.more (G++[c3]);have hO5:=hw.out.more (G++[c3]);have hK5:=(oD.refl lo h).more (G++[c3]);have hlt5:=aK hB5;refine aN (lo:=lo) (n:=5) (es:=w.trips.map aD) (ys:=[aD T]) hT5 (by omega) hap (by simp;omega) ?_;intro s1 H1 hs1 hg1 hn1;have hs1f:=hs1.rs.fix;have hb1:=hg1.keep b _ hB5 (sS hT5 hB5 (by decide));have hm1:=hg1.keep mb _ hM5 (kT hT5 hM5);have ho1:=gQ hO5 hT5 (by decide) hg1;have hk1:=hK5.grow hT5 (by decide) hg1;have hb13:=at3 hb1;have hbq:=at3 hB5;simp only [iV] at hb13 hbq;simp [xn,-aj,-au,-ah,-AV.solid,e0,e1,e2,e8,hs1f,hb13,hbq,htf];refine⟨⟨s1,?_⟩,hk1.set hb1 (by decide) hlo _⟩;refine⟨?_,get_put hb1 hm1 (nX hb1 hm1),?_,iT ho1 hb1 (by decide) _,hw.low,hw.lom⟩
   ·rw [zI hb13.2.1];simp [iV]
   ·have:=iT hs1 hb1 (by decide) (.cells 10 [iV t veh mb s1 ou op w.before w.last]);simpa [iV] using this
end Go.Proofs.YtkpioblbeiaefaaGreat
end
