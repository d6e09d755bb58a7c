/- Part 18 of the lemmas below the statements of this seat: AbsStr, SortLay, PassB, TripE. -/
import Derived.Test.YtkpioblbeiaefaaGreatPb14
import Derived.Shelf.SortM.Plain
import Derived.Shelf.SortM.SortNone
set_option linter.unusedSectionVars false
set_option linter.unusedVariables false
set_option linter.unusedSimpArgs false
set_option linter.unnecessarySimpa false
set_option maxRecDepth 100000
section
namespace Go.Abs
open Go Go.Proofs Go.Shelf
theorem K3 {gl:aR} {h:ak} {J:List eF} {w:World} (hh:dm gl h J w)(os:Array Obj):dm gl h J (Sort.grow w os)∧jE h J w h J (Sort.grow w os):=by
 have hk: ∀r,r<w.heap.size→(Sort.grow w os).heap[r]? =w.heap[r]? :=fun r hr=>by
  show (w.heap++os)[r]? =_;rw [Array.getElem?_append_left hr]
 have ev:jE h J w h J (Sort.grow w os):=⟨⟨[],by simp⟩,by simp [Sort.grow],fun r hr n=>⟨hk r hr,n⟩,rfl,rfl,rfl⟩;exact⟨hh.step ev hh.len hh.inj (fun b k hb=>Nat.lt_of_lt_of_le (hh.lt b k hb) ev.size) (fun b k o h1 h2 _=> .inl ⟨h1,h2,hk _ (hh.lt b k h1)⟩),ev⟩
theorem Uc {P:Program} {ρ:Ren} {gl:aR} {h:ak} (Ly:SlLaysM.n6 P ρ)(b:Nat)(ss:List (List UInt8))(hb:h[b]? =some (.cells 1 (ss.map aO)))(hl:ss.length<4611686018427387904):
  af P gl (ρ.f 6) [.own b 0 ss.length] h fun v h'=>v= .tup []∧h'=h.set b (.cells 1 ((ll ss).map aO)):=by
 refine⟨?_,fun J w vs hh hv=> ?_⟩
 ·obtain⟨nm,hn,hf⟩:=Ly.f6;exact⟨_,hf,rfl,hn⟩
 ·obtain⟨hvl,hvr⟩:=hv
  match vs,hvl with
  | [v],_=>
   have hr:=hvr 0 _ v rfl rfl
   cases hr with
   | own _ _ _ k a cap hk ha hle hcap=>
    by_cases h0:ss=[]
    ·subst h0;refine Calls.mono' (AnyM.slices_Sort_string_none Ly (some a) cap w) ?_;rintro e w' ⟨rfl,rfl⟩;have hset:h.set b (.cells 1 ((ll []).map aO))=h:=by
      refine List.ext_getElem? fun i=> ?_;rw [List.getElem?_set];split
      ·rename_i e;subst e
       rw [if_pos (zA.1 hb).1,hb,show ll []=[] from List.mergeSort_nil]
      ·rfl
     exact⟨.tup [],_,J,h,rfl,hh,.tup [] [] rfl (by simp),jE.refl _ _ _,rfl,hset.symm⟩
    ·have hpos:0<ss.length:=List.length_pos_iff.2 h0;have ha':=ha (by omega);subst ha';obtain⟨o1,o2,o3,o4,vs0,T,o5,o6,o7⟩:=hh.obj b k _ hk hb;have hkn:k.n=1:=o1;have cellv: ∀(i:Nat) (s:List UInt8),ss[i]? =some s→vs0[k.base+i]? =some (encStr s):=fun i s hs=>by
      obtain⟨u,p1,p2,p3⟩:=o7 i (aO s) 0 (.str s) (by rw [List.getElem?_map,hs];rfl) rfl;rw [hkn] at p1;cases p3
      simpa using p1
     have hH:Sort.Holds encStr w k.r (k.base+0*k.n) ss.toArray:=fun j hj=>by
      have hj':j<ss.length:=by simpa using hj
      obtain⟨s,hs,hs'⟩: ∃s,ss[j]? =some s∧ss[j]=s:=⟨_,zB hj',rfl⟩;have e:ss.toArray[j]! =s:=by rw [getElem!_pos ss.toArray j hj];simpa using hs'
      rw [e,Nat.zero_mul,Nat.add_zero];refine⟨?_,?_⟩
      ·rw [cell_of_heap o5];exact cellv j s hs
      ·simp [World.frozen?,o5]
     refine Calls.mono' (AnyM.slices_Sort_string Ly k.r (k.base+0*k.n) cap ss w hH (hh.lt b k hk) hl) ?_;rintro e w' ⟨rfl,n,os,rfl⟩;obtain⟨d,hd⟩: ∃d,d=ll ss:=⟨_,rfl⟩;have hdl:d.length=ss.length:=by rw [hd,ll,List.length_mergeSort]
     rw [show (ss.mergeSort fun x y=>decide (x≤y))=d from hd.symm,←hd];have hw1:(Sort.putRow encStr (Sort.ahead w n) k.r (k.base+0*k.n) d.toArray).heap[k.r]? =some (.cells (Sort.putCells encStr (k.base+0*k.n) d.toArray vs0) T (0,0)):=by
      show (w.heap.modify k.r _)[k.r]? =_;rw [Array.getElem?_modify,if_pos rfl,o5];rfl
     have key:=hh.set (w':=Sort.putRow encStr (Sort.ahead w n) k.r (k.base+0*k.n) d.toArray) (.cells 1 (d.map aO)) hk hb (by simp) (by show (w.heap.modify k.r _).size=_;rw [Array.size_modify]) (fun r hr=>by
       show (w.heap.modify k.r _)[r]? =_;rw [Array.getElem?_modify,if_neg (Ne.symm hr)]) rfl rfl rfl (fun O' hm=>by
      refine⟨hkn,by omega,by rw [List.length_map,hdl];simpa using o3,fun i e he=> ?_,_,T,hw1,?_,fun i e c x he hx=> ?_⟩
      ·obtain⟨s,_,rfl⟩:=List.mem_map.1 (zF he);exact hkn.symm
      ·rw [Sort.putCells,Array.size_mapIdx];exact o6
      ·rw [List.getElem?_map,Option.map_eq_some_iff] at he;obtain⟨s,hs,rfl⟩:=he;have hil:=(zA.1 hs).1
       cases c with
       | zero=>
        obtain rfl:=Option.some.inj hx;refine⟨encStr s,?_,rfl,.str s⟩;obtain⟨s0,hs0,_⟩: ∃s0,ss[i]? =some s0∧True:=⟨_,zB (by omega),trivial⟩;rw [Sort.putCells,Array.getElem?_mapIdx,hkn,show k.base+(i*1+0)=k.base+i by omega,cellv i s0 hs0,Option.map_some,if_pos (by simp;omega)];have e1:k.base+i - (k.base+0*1)=i:=by omega
        have e2:d.toArray[i]! =s:=by
         rw [getElem!_pos d.toArray i (by simpa using hil)];simpa using (zA.1 hs).2
        rw [e1,e2]
       | succ c=>simp [aO] at hx)
     obtain⟨r1,ev1⟩:=key;obtain⟨r2,ev2⟩:=K3 r1 os;exact⟨.tup [],_,J,_,rfl,r2,.tup [] [] rfl (by simp),ev1.trans ev2,rfl,rfl⟩
theorem Vn {P:Program} {ρ:Ren} {gl:aR} {h:ak} (Ly:SlLaysM.n6 P ρ) {lo:Nat} {x:AV} (ss:List (List UInt8))(hx:Ls 1 lo h x (ss.map aO))(hl:ss.length<4611686018427387904):
  af P gl (ρ.f 6) [x] h fun v h'=>v= .tup []∧Ls 1 lo h' x ((ll ss).map aO)∧h'.length=h.length∧ ∀(b:Nat) (o:cZ),h[b]? =some o→(∀off len,x≠ .own b off len)→h'[b]? =some o:=by
 rcases hx.1 with⟨rfl,he⟩ | ⟨b,rfl,hlb,hb⟩
 ·have he:ss=[]:=by simpa using he
  subst he;refine⟨?_,fun J w vs hh hv=> ?_⟩
  ·obtain⟨nm,hn,hf⟩:=Ly.f6;exact⟨_,hf,rfl,hn⟩
  ·obtain⟨hvl,hvr⟩:=hv
   match vs,hvl with
   | [v],_=>
    have hr:=hvr 0 _ v rfl rfl
    cases hr with
    | nil=>
     refine Calls.mono' (AnyM.slices_Sort_string_none Ly none 0 w) ?_;rintro e w' ⟨rfl,rfl⟩;exact⟨.tup [],_,J,h,rfl,hh,.tup [] [] rfl (by simp),jE.refl _ _ _,rfl,by rw [show ll []=[] from List.mergeSort_nil];simpa using Ls.nil,rfl,fun _ _ ho _=>ho⟩
 ·rw [List.length_map] at*;refine (Uc Ly b ss hb hl).mono ?_;rintro v h' ⟨rfl,rfl⟩;refine⟨rfl,?_,by simp,fun b' o ho hne=> ?_⟩
  ·refine Ls.own (zI (zA.1 hb).1) hlb (by simp [ll]) fun e he=> ?_;obtain⟨s,_,rfl⟩:=List.mem_map.1 he;rfl
  ·rw [zJ (by rintro rfl;exact hne _ _ rfl)];exact ho
end Go.Abs
end
section
namespace Go.Proofs.YtkpioblbeiaefaaGreat
open Go Go.Abs Go.Shelf Go.Proofs
def Ub:Ren:=⟨fun | 6=>84 | 8=>122 | 9=>121 | 19=>159 | 20=>160 | 21=>150 | 22=>151 | 23=>152 | 24=>153 | 25=>154 | 26=>155 | 27=>156 | 28=>157 | 29=>158 | 36=>174 | 31=>175 | 32=>176 | 37=>177 | 38=>178 | 39=>104 | 41=>192 | n=>n,fun | 27=>46 | 29=>9 | 3=>3 | 32=>160 | 26=>46 | 0=>0 | 44=>198 | 46=>200 | 4=>4 | 36=>191 | 35=>190 | 41=>195 | 5=>5 | 9=>9 | 53=>213 | 57=>217 | 63=>234 | 64=>235 | n=>n,fun n=>n⟩
theorem Rl:SlLaysM.n6 Tryz.prog Ub:= {
 mixed:=by kernel_rfl,
 f6:=⟨Tryz.f84.name,by decide,Tryz.func84.trans (congrArg some (by kernel_rfl))⟩,
 f8:=Tryz.func122.trans (congrArg some (by kernel_rfl)),
 f9:=⟨Tryz.f121.name,by decide,Tryz.func121.trans (congrArg some (by kernel_rfl))⟩,
 f19:=Tryz.func159.trans (congrArg some (by kernel_rfl)),
 f20:=Tryz.func160.trans (congrArg some (by kernel_rfl)),
 f21:=⟨Tryz.f150.name,by decide,Tryz.func150.trans (congrArg some (by kernel_rfl))⟩,
 f22:=⟨Tryz.f151.name,by decide,Tryz.func151.trans (congrArg some (by kernel_rfl))⟩,
 f23:=⟨Tryz.f152.name,by decide,Tryz.func152.trans (congrArg some (by kernel_rfl))⟩,
 f24:=⟨Tryz.f153.name,by decide,Tryz.func153.trans (congrArg some (by kernel_rfl))⟩,
 f25:=⟨Tryz.f154.name,by decide,Tryz.func154.trans (congrArg some (by kernel_rfl))⟩,
 f26:=⟨Tryz.f155.name,by decide,Tryz.func155.trans (congrArg some (by kernel_rfl))⟩,
 f27:=⟨Tryz.f156.name,by decide,Tryz.func156.trans (congrArg some (by kernel_rfl))⟩,
 f28:=⟨Tryz.f157.name,by decide,Tryz.func157.trans (congrArg some (by kernel_rfl))⟩,
 f29:=⟨Tryz.f158.name,by decide,Tryz.func158.trans (congrArg some (by kernel_rfl))⟩,
 f31:=Tryz.func175.trans (congrArg some (by kernel_rfl)),
 f32:=Tryz.func176.trans (congrArg some (by kernel_rfl)),
 f36:=⟨Tryz.f174.name,by decide,Tryz.func174.trans (congrArg some (by kernel_rfl))⟩,
 f37:=⟨Tryz.f177.name,by decide,Tryz.func177.trans (congrArg some (by kernel_rfl))⟩,
 f38:=⟨Tryz.f178.name,by decide,Tryz.func178.trans (congrArg some (by kernel_rfl))⟩,
 f39:=⟨Tryz.f104.name,by decide,Tryz.func104.trans (congrArg some (by kernel_rfl))⟩,
 f41:=⟨Tryz.f192.name,by decide,Tryz.func192.trans (congrArg some (by kernel_rfl))⟩,
 t0:=Tryz.underlying0,
 a0:=Tryz.isAgg0,
 z0:=Tryz.sizeOf0,
 v0:=Tryz.zeroValue0,
 t3:=Tryz.underlying3,
 a3:=Tryz.isAgg3,
 z3:=Tryz.sizeOf3,
 v3:=Tryz.zeroValue3,
 t4:=Tryz.underlying4,
 a4:=Tryz.isAgg4,
 z4:=Tryz.sizeOf4,
 v4:=Tryz.zeroValue4,
 t5:=Tryz.underlying5,
 a5:=Tryz.isAgg5,
 z5:=Tryz.sizeOf5,
 v5:=Tryz.zeroValue5,
 t9:=Tryz.underlying9,
 a9:=Tryz.isAgg9,
 z9:=Tryz.sizeOf9,
 v9:=Tryz.zeroValue9,
 t26:=Tryz.underlying46,
 a26:=Tryz.isAgg46,
 z26:=Tryz.sizeOf46,
 v26:=Tryz.zeroValue46,
 t27:=Tryz.underlying46,
 a27:=Tryz.isAgg46,
 z27:=Tryz.sizeOf46,
 v27:=Tryz.zeroValue46,
 t29:=Tryz.underlying9,
 a29:=Tryz.isAgg9,
 z29:=Tryz.sizeOf9,
 v29:=Tryz.zeroValue9,
 t32:=Tryz.underlying160,
 a32:=Tryz.isAgg160,
 z32:=Tryz.sizeOf160,
 v32:=Tryz.zeroValue160,
 t35:=Tryz.underlying190,
 a35:=Tryz.isAgg190,
 z35:=Tryz.sizeOf190,
 v35:=Tryz.zeroValue190,
 t36:=Tryz.underlying191,
 a36:=Tryz.isAgg191,
 z36:=Tryz.sizeOf191,
 v36:=Tryz.zeroValue191,
 t41:=Tryz.underlying195,
 a41:=Tryz.isAgg195,
 z41:=Tryz.sizeOf195,
 v41:=Tryz.zeroValue195,
 t44:=Tryz.underlying198,
 a44:=Tryz.isAgg198,
 z44:=Tryz.sizeOf198,
 v44:=Tryz.zeroValue198,
 t46:=Tryz.underlying200,
 a46:=Tryz.isAgg200,
 z46:=Tryz.sizeOf200,
 v46:=Tryz.zeroValue200,
 t53:=Tryz.underlying213,
 a53:=Tryz.isAgg213,
 z53:=Tryz.sizeOf213,
 v53:=Tryz.zeroValue213,
 t57:=Tryz.underlying217,
 a57:=Tryz.isAgg217,
 z57:=Tryz.sizeOf217,
 v57:=Tryz.zeroValue217,
 t63:=Tryz.underlying234,
 a63:=Tryz.isAgg234,
 z63:=Tryz.sizeOf234,
 v63:=Tryz.zeroValue234,
 t64:=Tryz.underlying235,
 a64:=Tryz.isAgg235,
 z64:=Tryz.sizeOf235,
 v64:=Tryz.zeroValue235
}
theorem y7 {gl:aR} {h:ak} {lo:Nat} {x:AV} (ss:List (List UInt8))(hx:Ls 1 lo h x (ss.map aO))(hl:ss.length<4611686018427387904):
  af Tryz.prog gl 84 [x] h fun v h'=>v= .tup []∧Ls 1 lo h' x ((ll ss).map aO)∧h'.length=h.length∧ ∀(b:Nat) (o:cZ),h[b]? =some o→(∀off len,x≠ .own b off len)→h'[b]? =some o:=Vn Rl ss hx hl
end Go.Proofs.YtkpioblbeiaefaaGreat
end
section
namespace Go.Proofs.YtkpioblbeiaefaaGreat
open Go Go.Abs Go.Toll
variable {gl : aR} {h : ak}
def encS' (s:Bytes):AV:= .str s
theorem Ll {m:List (Bytes×Bytes)} (s:Bytes):bC Tryz.prog 9 (.str s) (sM encS' m):=by
 refine⟨by simp [dY],[.str],by simp,by simp,fun p hp=> ?_⟩;obtain⟨q,_,rfl⟩:=Ac _ hp;simp
theorem Li {m:List (Bytes×Bool)} (s:Bytes):bC Tryz.prog 9 (.str s) (sM AV.bool m):=by
 refine⟨by simp [dY],[.str],by simp,by simp,fun p hp=> ?_⟩;obtain⟨q,_,rfl⟩:=Ac _ hp;simp
theorem SF (m:List (Bytes×Bool))(s:Bytes):(iy (sM AV.bool m) (.str s)).getD (.bool false)= .bool (wN m s):=by
 rw [kP,wN];cases iW m s <;> rfl
theorem Xh (m:List (Bytes×Bytes))(s:Bytes):(iy (sM encS' m) (.str s)).getD (.str [])= .str ((iW m s).getD []):=by
 rw [kP];cases iW m s <;> rfl
theorem O4 (b:Nat)(a c:Bytes)(hb:h[b]? =some (.cells 1 [[.str a],[.str c]])):af Tryz.prog gl 67 [.own b 0 2] h fun v h'=>v= .str (MR a c)∧h'=h:=by
 refine af.data (by simp) (af.body Tryz.f67 _ mixed Tryz.func67 rfl rfl (by simp [Tryz.ntmps67]) ?_);have hb3:=at3 hb;simp [hb3];refine aW.up mixed 2 (fun i fr H=>fr 3= .str []∧fr 6= .own b 0 2∧fr 7= .int .i64 2∧fr 8= .int .i64 i∧(1≤i→a=[])∧(2≤i→c=[])∧H=h) 0 (by omega) ⟨by simp,by simp,by simp,by simp,by omega,by omega,rfl⟩ ?_;rintro i fr H hi ⟨e3,e6,e7,e8,ha,hc,rfl⟩;obtain rfl | rfl | rfl:i=0∨i=1∨i=2:=by omega
 ·by_cases q:a=[]
  ·have ew:=aB (i:=0) (by omega);simp at ew;simp [e3,e6,e7,e8,hb3,q,ew];exact⟨1,by omega,by omega,by omega,by omega⟩
  ·simp [e3,e6,e7,e8,hb3,q,MR]
 ·have ha':=ha (by omega);by_cases q:c=[]
  ·have ew:=aB (i:=1) (by omega);simp at ew;simp [e3,e6,e7,e8,hb3,q,ha',ew];exact⟨2,by omega,by omega,by omega⟩
  ·simp [e3,e6,e7,e8,hb3,q,ha',MR]
 ·have ha':=ha (by omega);have hc':=hc (by omega);simp [e3,e6,e7,e8,hb3,ha',hc',MR]
theorem BP (p:aC):af Tryz.prog gl 37 [.agg (aj p)] h fun v h'=>v= .str (IW p)∧h'=h:=by
 refine af.data (by simp) (af.body Tryz.f37 _ mixed Tryz.func37 rfl rfl (by simp [Tryz.ntmps37]) ?_);simp [aj];refine ay.pure _ (fun _=>O4 (h.length+1) p.tag p.plate (by simp)) ?_;simp [IW]
theorem ME (p:aC):af Tryz.prog gl 36 [.agg (aj p)] h fun v h'=>v= .bool (!decide (p.tag=[]))∧h'=h:=by
 refine af.data (by simp) (af.body Tryz.f36 _ mixed Tryz.func36 rfl rfl (by simp [Tryz.ntmps36]) ?_);by_cases c:p.tag=[] <;> simp [aj,c]
def MB (l:List aC):Int:=match l.findIdx? (fun p=> !decide (p.tag=[])) with
 | some i=>i
 | none=> -1
theorem Am (l:List aC)(hl:l.length≤1000000):af Tryz.prog gl 35 [.ro (l.map aj),.fn (.func 36) [] []] h fun v h'=>v= .int .i64 (MB l)∧h'=h:=by
 refine af.data (by simp) (af.body Tryz.f35 _ mixed Tryz.func35 rfl rfl (by simp [Tryz.ntmps35]) ?_);simp;refine aW.up mixed l.length (fun i fr H=>fr 0= .ro (l.map aj)∧fr 1= .fn (.func 36) [] []∧fr 7= .int .i64 l.length∧fr 8= .int .i64 i∧(∀j p,j<i→l[j]? =some p→p.tag=[])∧ ∃g,H=h++g) 0 (by omega)
  ⟨by simp,by simp,by simp,by simp,by omega,[],by simp⟩ ?_
 rintro i fr H hi ⟨e0,e1,e7,e8,ha,g,rfl⟩;rcases zN i l.length with hlt | hge
 ·obtain⟨p,hp,hp'⟩:=aN hlt;have ew:=aB (i:=i) (by omega);have hltI:(i:Int)<l.length:=by omega
  simp [e0,e1,e7,e8,hlt,hltI,hp,hp',aj];refine ay.pure _ (fun _=>by simpa [aj] using ME p) ?_;by_cases q:p.tag=[]
  ·simp [e0,e1,e7,e8,q,ew];refine⟨i+1,by omega,by omega,by omega,fun j p' hj hp2=> ?_⟩;rcases zN j i with hji | hji
   ·exact ha j p' hji hp2
   ·obtain rfl:j=i:=by omega
    rw [hp] at hp2;cases hp2;exact q
  ·simp [e0,e1,e7,e8,q];have:l.findIdx? (fun p=> !decide (p.tag=[]))=some i:=by
    rw [List.findIdx?_eq_some_iff_getElem];refine⟨hlt,by rw [hp'];simpa using q,fun j hj=> ?_⟩;have:=ha j l[j] hj (zB (by omega));simp [this]
   rw [MB,this]
 ·obtain rfl:i=l.length:=by omega
  simp [e0,e1,e7,e8];have:l.findIdx? (fun p=> !decide (p.tag=[]))=none:=by
   rw [List.findIdx?_eq_none_iff];intro p hp;obtain⟨j,hj⟩:=List.getElem?_of_mem hp;have:=ha j p (aK hj) hj;simp [this]
  rw [MB,this]
set_option maxHeartbeats 2000000 in
theorem yP (l:List aC)(hl:l.length≤1000000):af Tryz.prog gl 82 [.ro (l.map aj)] h fun v h'=>v= .map h.length∧ ∃g,h'=h++ .map (sM encS' (jN l l.length))::g:=by
 refine af.body Tryz.f82 _ mixed Tryz.func82 rfl rfl (by simp [Tryz.ntmps82]) ?_;simp;refine aW.up mixed l.length (fun i fr H=>fr 3= .map h.length∧fr 9= .ro (l.map aj)∧fr 10= .int .i64 l.length∧fr 11= .int .i64 i∧ ∃g,H=h++ .map (sM encS' (jN l i))::g) 0 (by omega)
  ⟨by simp,by simp,by simp,by simp,[],by simp [jN,sM]⟩ ?_
 rintro i fr H hi ⟨e3,e9,e10,e11,g,rfl⟩;rcases zN i l.length with hlt | hge
 ·obtain⟨p,hp,hp'⟩:=aN hlt;have ew:=aB (i:=i) (by omega);have hltI:(i:Int)<l.length:=by omega
  have hko:=Ll (m:=jN l i) p.plate;have hs:=yf encS' (jN l i) p.plate;have hs1:=hs p.tag;have hs2:=hs [];simp only [encS'] at hs1 hs2;by_cases c1:p.tag=[]
  ·have et:jN l (i+1)=jN l i:=by rw [vY hp,if_pos (.inl c1)]
   simp [au,-bC,e3,e9,e10,e11,hlt,hltI,hp,hp',c1,ew];exact⟨i+1,by omega,by omega,by omega,by rw [et]⟩
  ·by_cases c2:p.plate=[]
   ·have et:jN l (i+1)=jN l i:=by rw [vY hp,if_pos (.inr c2)]
    simp [au,-bC,e3,e9,e10,e11,hlt,hltI,hp,hp',c1,c2,ew];exact⟨i+1,by omega,by omega,by omega,by rw [et]⟩
   ·have et:jN l (i+1)=sJ (jN l i) p.plate (if (iW (jN l i) p.plate).all (fun t=>decide (t=p.tag))=true then p.tag else []):=by rw [vY hp,if_neg (by simp [c1,c2])]
    cases hg:iW (jN l i) p.plate with
    | none=>
     rw [hg] at et;simp at et;simp [au,-bC,e3,e9,e10,e11,hlt,hltI,hp,hp',c1,c2,ew,hko,kP,hg,hs1];exact⟨i+1,by omega,by omega,by omega,by rw [et]⟩
    | some t=>
     rw [hg] at et;by_cases c3:t=p.tag
     ·simp [c3] at et;simp [au,-bC,e3,e9,e10,e11,hlt,hltI,hp,hp',c1,c2,c3,ew,hko,kP,hg,hs1,encS'];exact⟨i+1,by omega,by omega,by omega,by rw [et]⟩
     ·simp [c3] at et;simp [au,-bC,e3,e9,e10,e11,hlt,hltI,hp,hp',c1,c2,c3,ew,hko,kP,hg,hs2,encS'];exact⟨i+1,by omega,by omega,by omega,by rw [et]⟩
 ·obtain rfl:i=l.length:=by omega
  simp [au,-bC,e3,e9,e10,e11]
theorem wQ (l:List aC)(p:aC)(m:Nat)(hm:h[m]? =some (.map (sM encS' (jN l l.length)))):af Tryz.prog gl 83 [.agg (aj p),.map m] h fun v h'=>v= .str (bU l p)∧h'=h:=by
 refine af.data (by simp) (af.body Tryz.f83 _ mixed Tryz.func83 rfl rfl (by simp [Tryz.ntmps83]) ?_);have hm3:=at3 hm;have hko:=Ll (m:=jN l l.length) p.plate;have hlk:=Xh (jN l l.length) p.plate;by_cases c1:p.tag=[]
 ·by_cases c2:p.plate=[]
  ·simp [au,-bC,c1,c2,bU]
  ·have eg:=Mx (l:=l) c2 l.length;rw [List.take_length] at eg;simp [au,-bC,c1,c2,hm3,hko,hlk];refine ay.pure (.str (MR ((iW (jN l l.length) p.plate).getD []) p.plate)) (fun _=> ?_) ?_
   ·exact O4 (h.length+1) ((iW (jN l l.length) p.plate).getD []) p.plate (by simp)
   ·simp [bU,c1,c2,eg]
 ·simp [au,-bC,c1,bU]
set_option maxHeartbeats 4000000 in
theorem N7 (l:List aC)(v:Bytes)(hok: ∀p∈l,p.Ok∧p.sources.length≤1000)(hn:l.length<20):af Tryz.prog gl 43 [.ro (l.map aj),.str v] h fun x h'=>x= .ro ((tT l v).map aj)∧h'=h:=by
 refine af.fresh' (af.body Tryz.f43 _ mixed Tryz.func43 rfl rfl (by simp [Tryz.ntmps43]) ?_);by_cases hv:v=[]
 ·simp [hv,tT];exact .nil
 ·simp [hv];refine ay.any (yP l (by omega)) ?_;rintro m h1 ⟨rfl,g1,hh1⟩;have hm1:h1[h.length]? =some (.map (sM encS' (jN l l.length))):=by rw [hh1];simp
  have hb1: ∃g,h1=h++g:=⟨_,hh1⟩;have hln:=aK hm1;clear hh1;simp;refine aW.up mixed l.length (fun i fr H=>fr 1= .str v∧fr 5= .map h.length∧fr 13= .ro (l.map aj)∧fr 14= .int .i64 l.length∧fr 15= .int .i64 i∧(∃g,H=h1++g)∧ ∃y,fr 6=y∧Ls 8 h1.length H y ((JJ l v i).map aj)) 0 (by omega)
   ⟨by simp,by simp,by simp,by simp,by simp,⟨[],by simp⟩,.nil,by simp,by simpa [JJ] using Ls.nil⟩ ?_
  rintro i fr H hi ⟨e1,e5,e13,e14,e15,⟨g,rfl⟩,y,e6,hy⟩;rcases zN i l.length with hlt | hge
  ·obtain⟨p,hp,hp'⟩:=aN hlt;have ew:=aB (i:=i) (by omega);have hltI:(i:Int)<l.length:=by omega
   have hyf:=hy.rs.fix;have hlen:=Cs l v i;simp [-ae,-ai,-ah,-AV.solid,e1,e5,e6,e13,e14,e15,hlt,hltI,hp,hp',aj];refine ay.pure _ (fun _=>wQ l p h.length (aJ hm1 _)) ?_;by_cases c:bU l p=v
   ·have eo:JJ l v (i+1)=JJ l v i++[p]:=by rw [El hp,if_pos c]
    simp [-ae,-ai,-ah,-AV.solid,e1,e5,e6,e13,e14,e15,c,hyf];refine aG (lo:=h1.length) (n:=8) (es:=(JJ l v i).map aj) (ys:=[aj p]) (by simpa [aj] using (hy.more [.cells 8 [aj p],.cells 8 [aj p]])) (by simp) (by simp [bu,aj]) (by simp;omega) ?_;intro s1 H1 hs1 hg1 hn1;have hs1f:=hs1.rs.fix;have hB1:=hg1.base h1 (by omega) (by simpa [aj] using ⟨_,rfl⟩);simp [-ae,-ai,-ah,-AV.solid,e1,e5,e6,e13,e14,e15,hs1f,ew];exact⟨i+1,by omega,by omega,by omega,hB1,by rw [eo];simpa using hs1⟩
   ·have eo:JJ l v (i+1)=JJ l v i:=by rw [El hp,if_neg c]
    simp [-ae,-ai,-ah,-AV.solid,e1,e5,e6,e13,e14,e15,c,hyf,ew];refine⟨i+1,by omega,by omega,by omega,?_⟩;rw [eo];simpa [aj] using hy.more [.cells 8 [aj p]]
  ·obtain rfl:i=l.length:=by omega
   have hlen:=Cs l v l.length;simp [-ae,-ai,-ah,-AV.solid,e1,e5,e6,e13,e14,e15,hy.rs.fix];refine ay.pure _ (fun _=>yO _ hy.rs (fun p hp=>hok p (Ct hp).1) (by omega)) ?_;simp;obtain⟨g1,rfl⟩:=hb1;refine⟨⟨_,by rw [zK]⟩,?_⟩;rw [tT,if_neg hv];exact .data _ (.ro _ (rD fun p hp=>(hok p (Ct (l8.1 hp)).1).1))
set_option maxHeartbeats 4000000 in
theorem Ag (l:List aC)(hn:l.length<20):af Tryz.prog gl 42 [.ro (l.map aj)] h fun x h'=>x= .ro ((eX l).map aO)∧h'=h:=by
 refine af.fresh' (af.body Tryz.f42 _ mixed Tryz.func42 rfl rfl (by simp [Tryz.ntmps42]) ?_);simp;refine ay.any (yP l (by omega)) ?_;rintro m h1 ⟨rfl,g1,hh1⟩;have hm1:h1[h.length]? =some (.map (sM encS' (jN l l.length))):=by rw [hh1];simp
 have hb1: ∃g,h1=h++g:=⟨_,hh1⟩;have hln:=aK hm1;clear hh1;simp;refine aW.up mixed l.length (fun i fr H=>fr 3= .map h.length∧fr 4= .map h1.length∧fr 12= .ro (l.map aj)∧fr 13= .int .i64 l.length∧fr 14= .int .i64 i∧(∃g,H=h1++g)∧
   (∃m,H[h1.length]? =some (.map (sM AV.bool m))∧ ∀s,wN m s=decide (s∈jW l i))∧ ∃y,fr 5=y∧Ls 1 (h1.length+1) H y ((jW l i).map aO)) 0 (by omega)
  ⟨by simp,by simp,by simp,by simp,by simp,⟨[.map []],by simp⟩,⟨[],by simp [sM],by simp [wN,iW,jW]⟩,.nil,by simp,by simpa [jW] using Ls.nil⟩ ?_
 rintro i fr H hi ⟨e3,e4,e12,e13,e14,⟨g,hH⟩,⟨mm,hM,hmm⟩,y,e5,hy⟩;have hm2:H[h.length]? =some (.map (sM encS' (jN l l.length))):=by rw [hH];exact aJ hm1 _
 have hlH:=aK hM;rcases zN i l.length with hlt | hge
 ·obtain⟨p,hp,hp'⟩:=aN hlt;have ew:=aB (i:=i) (by omega);have hltI:(i:Int)<l.length:=by omega
  have hyf:=hy.rs.fix;have hlen:=zh l i;simp [au,-bC,-ae,-ai,-ah,-AV.solid,e3,e4,e5,e12,e13,e14,hlt,hltI,hp,hp',aj];refine ay.pure _ (fun _=>wQ l p h.length (aJ hm2 _)) ?_;have hv:=RD hp;have hM3:=at3 (aJ hM [.cells 8 [aj p]]);simp only [dK] at hM3;generalize bU l p=v at*;have hko:=Li (m:=mm) v;have hlk:=SF mm v;rw [hmm v] at hlk;by_cases c1:v=[]
  ·rw [if_pos (.inl c1)] at hv;simp [au,-bC,-ae,-ai,-ah,-AV.solid,e3,e4,e5,e12,e13,e14,c1,ew];refine⟨i+1,by omega,by omega,by omega,aF ⟨g,hH⟩ _,⟨mm,by simpa using hM3.1,by rw [hv];exact hmm⟩,?_⟩;rw [hv];simpa using hy.more [.cells 8 [aj p]]
  ·by_cases c2:v∈jW l i
   ·rw [if_pos (.inr c2)] at hv;simp [au,-bC,-ae,-ai,-ah,-AV.solid,e3,e4,e5,e12,e13,e14,c1,c2,ew,hM3,hko,hlk];refine⟨i+1,by omega,by omega,by omega,aF ⟨g,hH⟩ _,⟨mm,by simpa using hM3.1,by rw [hv];exact hmm⟩,?_⟩;rw [hv];simpa using hy.more [.cells 8 [aj p]]
   ·rw [if_neg (by simp [c1,c2])] at hv;have hset:=yf AV.bool mm v true;simp [au,-bC,-ae,-ai,-ah,-AV.solid,e3,e4,e5,e12,e13,e14,c1,c2,hM3,hko,hlk,hset,hyf,hlH];obtain⟨H1,hH1⟩: ∃H1:ak,H1=(H.set h1.length (.map (sM AV.bool (sJ mm v true))))++[.cells 8 [aj p],.cells 1 [[.str v]]]:=⟨_,rfl⟩;have hH1':=hH1;simp only [dK] at hH1';have hy1:Ls 1 (h1.length+1) H1 y ((jW l i).map aO):=by rw [hH1];exact (hy.put (by omega)).more _
    have hb2: ∃g,H1=h1++g:=by rw [hH1];exact aF (cu ⟨g,hH⟩ (by omega) _) _
    have hM1:H1[h1.length]? =some (.map (sM AV.bool (sJ mm v true))):=by rw [hH1];exact aJ (zI hlH) _
    have hl1:=aK hM1;refine aG (lo:=h1.length+1) (n:=1) (es:=(jW l i).map aO) (ys:=[aO v]) (by rw [←hH1'];exact hy1) (by rw [←hH1'];omega) (by simp [bu,aO]) (by simp;omega) ?_;intro s1 H2 hs1 hg1 hn1;rw [←hH1'] at hg1;have hs1f:=hs1.rs.fix;have hB2:=hg1.base h1 (by omega) hb2;have hM2:=hg1.keep _ _ hM1 (lL hy1 hM1);simp [-ae,-ai,-ah,-AV.solid,e3,e4,e5,e12,e13,e14,hs1f,ew];refine⟨i+1,by omega,by omega,by omega,hB2,⟨_,hM2,fun s=> ?_⟩,by rw [hv];simpa using hs1⟩;rw [Ho,hmm,hv,Bool.eq_iff_iff];simp [or_comm]
 ·obtain rfl:i=l.length:=by omega
  have hlen:=zh l l.length;simp [-ae,-ai,-ah,-AV.solid,e3,e4,e5,e12,e13,e14,hy.rs.fix];refine ay.any (y7 (jW l l.length) hy (by omega)) ?_;rintro v h2 ⟨rfl,hy2,hl2,hk2⟩;have hb2: ∃g,h2=h++g:=by
   obtain⟨g0,rfl⟩:=hb1;subst hH;refine jw ⟨g0++g,by rw [zK]⟩ (fun b o hb ho=>hk2 b o ho fun off len e=> ?_) (by rw [hl2];simp);have:=hy.above _ _ _ e;simp at this;omega
  simp [-ae,-ai,-ah,-AV.solid,e3,e4,e5,e12,e13,e14,hy2.rs.fix];exact⟨hb2,hy2.frz (by omega) (fZ _)⟩
set_option maxHeartbeats 4000000 in
theorem IU (l:List aC) {x:AV} (hx:Rs 8 h x (l.map aj))(hok: ∀p∈l,p.Ok∧p.sources.length≤1000)(hn:l.length<20):af Tryz.prog gl 34 [x] h fun v h'=>v= .ro ((bO l).map aj)∧h'=h:=by
 refine af.fresh' (af.body Tryz.f34 _ mixed Tryz.func34 rfl rfl (by simp [Tryz.ntmps34]) ?_);have hx1:=hx.append [.map []];simp [hx.fix];refine ay.pure _ (fun _=>yO l hx1 hok hn) ?_;have hSl:(dZ l).length=l.length:=og l;have hSm: ∀p∈bO l,p∈l:=fun p hp=>by
  have:=lN hp;rw [List.take_length] at this;exact l8.1 this
 have hon:bO l=fQ (dZ l) (dZ l).length:=rfl;generalize dZ l=S at*;simp;refine aW.up mixed S.length (fun i fr H=>fr 3= .map h.length∧fr 9= .ro (S.map aj)∧fr 10= .int .i64 S.length∧fr 11= .int .i64 i∧(∃g,H=h++g)∧
   (∃m,H[h.length]? =some (.map (sM AV.bool m))∧ ∀s,wN m s=(S.take i).any fun q=>decide (q.id=s))∧ ∃y,fr 4=y∧Ls 8 (h.length+1) H y ((fQ S i).map aj)) 0 (by omega)
  ⟨by simp,by simp,by simp,by simp,⟨_,rfl⟩,⟨[],by simp [sM],by simp [wN,iW]⟩,.nil,by simp,by simpa [fQ] using Ls.nil⟩ ?_
 rintro i fr H hi ⟨e3,e9,e10,e11,⟨g,hH⟩,⟨mm,hM,hmm⟩,y,e4,hy⟩;have hlH:=aK hM;rcases zN i S.length with hlt | hge
 ·obtain⟨p,hp,hp'⟩:=aN hlt;have ew:=aB (i:=i) (by omega);have hltI:(i:Int)<S.length:=by omega
  have hyf:=hy.rs.fix;have hlen:=ru S i;have hM3:=at3 (aJ hM [.cells 8 [aj p]]);simp only [dK] at hM3;have hko:=Li (m:=mm) p.id;have hlk:=SF mm p.id;rw [hmm p.id] at hlk;have ho:=Eo hp;have ht: ∀s,((S.take (i+1)).any fun q=>decide (q.id=s))=(((S.take i).any fun q=>decide (q.id=s)) || decide (p.id=s)):=fun s=>by rw [zM,hp];simp
  unfold Bp at ho;by_cases c:((S.take i).any fun q=>decide (q.id=p.id))=true
  ·rw [if_pos c] at ho;rw [c] at hlk;simp [au,-bC,-ae,-ai,-ah,-AV.solid,-List.any_eq_true,e3,e4,e9,e10,e11,hlt,hltI,hp,hp',hM3,hko,hlk,ew];refine⟨i+1,by omega,by omega,by omega,aF ⟨g,hH⟩ _,⟨mm,by simpa using hM3.1,fun s=> ?_⟩,?_⟩
   ·rw [hmm,ht];by_cases e:p.id=s
    ·subst e;rw [c];rfl
    ·simp [e]
   ·rw [ho];simpa using hy.more [.cells 8 [aj p]]
  ·rw [if_neg c] at ho;have c':((S.take i).any fun q=>decide (q.id=p.id))=false:=by simpa using c
   rw [c'] at hlk;have hset:=yf AV.bool mm p.id true;simp [au,-bC,-ae,-ai,-ah,-AV.solid,-List.any_eq_true,e3,e4,e9,e10,e11,hlt,hltI,hp,hp',hM3,hko,hlk,hset,hyf,hlH];obtain⟨H1,hH1⟩: ∃H1:ak,H1=(H.set h.length (.map (sM AV.bool (sJ mm p.id true))))++[.cells 8 [aj p],.cells 8 [aj p]]:=⟨_,rfl⟩;have hH1':=hH1;simp only [dK] at hH1';have hy1:Ls 8 (h.length+1) H1 y ((fQ S i).map aj):=by rw [hH1];exact (hy.put (by omega)).more _
   have hb2: ∃g,H1=h++g:=by rw [hH1];exact aF (cu ⟨g,hH⟩ (by omega) _) _
   have hM1:H1[h.length]? =some (.map (sM AV.bool (sJ mm p.id true))):=by rw [hH1];exact aJ (zI hlH) _
   have hl1:=aK hM1;refine aG (lo:=h.length+1) (n:=8) (es:=(fQ S i).map aj) (ys:=[aj p]) (by rw [←hH1'];exact hy1) (by rw [←hH1'];omega) (by simp [bu]) (by simp;omega) ?_;intro s1 H2 hs1 hg1 hn1;rw [←hH1'] at hg1;have hs1f:=hs1.rs.fix;have hB2:=hg1.base h (by omega) hb2;have hM2:=hg1.keep _ _ hM1 (lL hy1 hM1);simp [-ae,-ai,-ah,-AV.solid,e3,e4,e9,e10,e11,hs1f,ew];refine⟨i+1,by omega,by omega,by omega,hB2,⟨_,hM2,fun s=> ?_⟩,by rw [ho];simpa using hs1⟩;rw [Ho,hmm,ht,Bool.or_comm];congr 1
   rw [Bool.eq_iff_iff];simp [eq_comm]
 ·obtain rfl:i=S.length:=by omega
  simp [-ae,-ai,-ah,-AV.solid,e3,e4,e9,e10,e11,hy.rs.fix];refine⟨⟨g,hH⟩,?_⟩;rw [hon];exact hy.frz (by omega) (rD fun p hp=>(hok p (hSm p (by rw [hon];exact hp))).1)
def yF:Nat→Option (List (Nat×Nat)):=fun id=>if id=0 then some [(3,13),(5,13),(7,13),(8,13)] else if id=1 then some [(3,10),(5,10),(7,10)] else if id=12 then some [(4,7)] else none
theorem Lj {m:List (Bytes×Int)} (s:Bytes):bC Tryz.prog 9 (.str s) (sM encZ' m):=by
 refine⟨by simp [dY],[.str],by simp,by simp,fun p hp=> ?_⟩;obtain⟨q,_,rfl⟩:=Ac _ hp;simp
def ut (m:List (Bytes×Int))(id:Bytes):Int:=(iW m id).getD 0
set_option maxHeartbeats 8000000 in
theorem MN (l:List bq)(k:Nat)(before:Bytes) {t:bn} {veh:Bytes} {mb:Nat} {m:List (Bytes×Int)} {b lo:Nat} {tr ou op:AV} {w:dG} (hw:xZ t veh mb m b lo h tr ou op w)(hk:h[k]? =some (.cells 3 (l.map aa)))
  (hne:l≠[]) (hl:l.length≤1000) (hbl:before.length≤1000000) (hal: ∀x∈l,x.point.length≤1000000) (htr:w.trips.length≤1000000) (hopf:op.core=op∧op.gd=true∧op.solid=true∧ah op=[op]) (hp:t.net.pts.length≤1000) (hlk:t.net.lks.length≤1000) (hsy:t.sys.length≤1000):
  af Tryz.prog gl 111 [.ptr b 0 0,.own k 0 l.length,.str before] h fun v h'=>v= .tup []∧(∃tr',xZ t veh mb m b lo h' tr' ou op { w with trips:=w.trips++[iC t veh (ut m) l before] })∧qA lo h h':=by
 refine af.bodyL yF Tryz.f111 _ mixed Tryz.func111 rfl rfl (by simp [Tryz.ntmps111]) ?_;have hpos:=List.length_pos_iff.2 hne;obtain⟨a,ha,ha'⟩:=aN hpos;have hb3:=at3 hw.blk;have hk3:=at3 hk;simp only [jO] at hb3;have sya:=fun (H:ak)=>iR (gl:=gl) (h:=H) t a.point hp hlk hsy;have e1:jU t a.point=((eu t a.point).getD sys0).name:=rfl;have htm:iC t veh (ut m) l before=⟨if (bg l).headD []=[] then before++[43]++a.point else (bg l).headD [],veh,jU t a.point,max (BM ((bg l).map (ut m))) 1,l⟩:=by
  have:l.headD ⟨[],0,[]⟩=a:=by cases l with
   | nil=>exact absurd rfl hne
   | cons x r=>simpa using ha
  simp only [iC,this]
 rw [htm,e1];clear htm e1;generalize (eu t a.point).getD sys0=y at*;generalize (eu t a.point).isSome=z at*;obtain⟨T,hT⟩: ∃T:dB,T=⟨if (bg l).headD []=[] then before++[43]++a.point else (bg l).headD [],veh,y.name,max (BM ((bg l).map (ut m))) 1,l⟩:=⟨_,rfl⟩;rw [←hT];have hz1:=at3 (aJ hw.blk [.cells 3 [[.str [],.bool false,.int .i64 0]]]);have hz2:=at3 (aJ hk [.cells 3 [[.str [],.bool false,.int .i64 0]]]);have hz3:=at3 (aJ hw.blk [.cells 3 [[.str y.name,.bool y.closed,.int .i64 y.most]]]);simp only [jO] at hz1 hz3;have hk4: ∀g:ak,af Tryz.prog gl 143 [.own k 0 l.length] (h++g) fun v h'=>v= .ro (l.map aa)∧h'=h++g:=fun g=>EZ l k (aJ hk g) (by omega);simp [yF,-ah,-AV.solid,aa,hb3,hk3,hpos,ha,ha'];refine⟨by decide,?_⟩;refine ay.pure _ (fun _=>sya _) ?_;simp [yF,-ah,-AV.solid,aa,hb3,hk3,hz1,hz2,hz3,hpos,ha,ha'];refine⟨ay.pure _ (fun _=>sya _) (by simp),?_⟩;refine⟨by decide,?_⟩;refine ay.pure _ (fun _=>hk4 _) ?_;have hz4:=at3 (aJ hw.blk [.cells 3 [[.str y.name,.bool y.closed,.int .i64 y.most]],.cells 5 [[.str [],.str [],.str [],.int .i64 0,.nil]]]);simp only [jO] at hz4;simp [yF,-ah,-AV.solid,aa,hz3,hz4];refine⟨ay.pure _ (fun _=>hk4 _) (by simp),?_⟩;have psg:=fun (H:ak)=>wX (gl:=gl) (h:=H) ⟨[],veh,y.name,0,l⟩ (by show l.length≤_;omega);refine ay.pure _ (fun _=>by simpa [aH] using psg _) ?_;simp [yF,-ah,-AV.solid];obtain⟨c1,hc1⟩: ∃c1:cZ,c1= .cells 3 [[.str y.name,.bool y.closed,.int .i64 y.most]]:=⟨_,rfl⟩;obtain⟨c2,hc2⟩: ∃c2:cZ,c2= .cells 5 [[.str [],.str veh,.str y.name,.int .i64 0,.ro (l.map aa)]]:=⟨_,rfl⟩;rw [←hc1,←hc2];have hpl:=rC l;refine aW.upL yF mixed (bg l).length (fun i fr H=>fr 0= .ptr b 0 0∧fr 1= .own k 0 l.length∧fr 2= .str before∧fr 8= .ptr (h.length+1) 0 0∧fr 34= .ro ((bg l).map aO)∧fr 35= .int .i64 (bg l).length∧fr 36= .int .i64 i∧(∃g,H=h++c1::c2::g)∧ ∃z,fr 9=z∧Ls 1 (h.length+2) H z ((((bg l).take i).map (ut m)).map encI')) 0 (by omega)
  ⟨by simp,by simp,by simp,by simp,by simp,by simp,by simp,⟨[],rfl⟩,.nil,by simp,by simpa using Ls.nil⟩ ?_
 rintro i fr H hi ⟨e0,e1,e2,e8,e34,e35,e36,⟨g,rfl⟩,zz,e9,hzz⟩;have hzf:=hzz.rs.fix;have hbH:=at3 (aJ hw.blk (c1::c2::g));have hmH:=at3 (aJ hw.mp (c1::c2::g));simp only [jO] at hbH;rcases zN i (bg l).length with hlt | hge
 ·obtain⟨s,hs,hs'⟩:=aN hlt;have ew:=aB (i:=i) (by omega);have hlk:((iW m s).map encZ').getD (.int .i64 0)= .int .i64 (ut m s):=by unfold ut;cases iW m s <;> rfl
  have hko:=Lj (m:=m) s;have htk:(bg l).take (i+1)=(bg l).take i++[s]:=by rw [zM,hs];rfl
  have htl:=List.length_take_le i (bg l);simp [yF,-ae,-ai,-ah,-AV.solid,-bC,aO,e0,e1,e2,e8,e9,e34,e35,e36,hlt,hs,hs',hbH,hmH,kP,hlk,hko,hzf];refine aG (lo:=h.length+2) (n:=1) (es:=((((bg l).take i).map (ut m)).map encI')) (ys:=[encI' (ut m s)]) (by simpa using hzz.more [.cells 1 [[.int .i64 (ut m s)]]]) (by simp <;> omega) (by simp [bu,encI']) (by simp <;> omega) ?_;intro s1 H1 hs1 hg1 hn1;have hs1f:=hs1.rs.fix;obtain⟨g',hg'⟩:=hg1.base (h++[c1,c2]) (by simp) ⟨g++[.cells 1 [[.int .i64 (ut m s)]]],by simp⟩;subst hg';simp [yF,-ae,-ai,-ah,-AV.solid,e0,e1,e2,e8,e34,e35,e36,hs1f,ew];exact⟨i+1,by omega,by omega,by omega,by rw [←List.map_take,htk];simpa using hs1⟩
 ·obtain rfl:i=(bg l).length:=by omega
  rw [List.take_length] at hzz;simp [yF,-ah,-AV.solid,e0,e1,e2,e8,e9,e34,e35,e36,hzf];refine ay.pure _ (fun _=>C9 _ zz hzz.rs (by simp;omega)) ?_;have hTi:T.id=if (bg l).headD []=[] then before++[43]++a.point else (bg l).headD []:=by rw [hT]
  have hTr:T.veh=veh∧T.sys=y.name∧T.cls=max (BM ((bg l).map (ut m))) 1∧T.stops=l:=by rw [hT];exact⟨rfl,rfl,rfl,rfl⟩
  clear hT;generalize BM ((bg l).map (ut m))=M at*;subst hc1 hc2;have idc:=fun (H:ak)=>Kj (gl:=gl) (h:=H) ⟨[],veh,y.name,max M 1,l⟩ (by show l.length≤_;omega);have hid:Pn ⟨[],veh,y.name,max M 1,l⟩=(bg l).headD []:=rfl;rw [hid] at idc;generalize (bg l).headD []=I at*;simp [yF,-ah,-AV.solid,e0,e1,e2,e8];refine ay.pure _ (fun _=>by simpa [aH] using idc _) ?_;obtain⟨c1,hc1⟩: ∃c1:cZ,c1= .cells 3 [[.str y.name,.bool y.closed,.int .i64 y.most]]:=⟨_,rfl⟩;rw [←hc1];have hkq:=at3 (aJ hk (c1:: .cells 5 [[.str I,.str veh,.str y.name,.int .i64 (max M 1),.ro (l.map aa)]]::g));have hapl:=hal a (zF ha);by_cases hI:I=[]
  ·rw [if_pos hI] at hTi;subst hI;have hGl: ∀g':ak,T=T→True:=fun _ _=>trivial;obtain⟨G,hG⟩: ∃G:ak,G=c1:: .cells 5 [[.str (before++43::a.point),.str veh,.str y.name,.int .i64 (max M 1),.ro (l.map aa)]]::g:=⟨_,rfl⟩;have hTc:aH T=[.str (before++43::a.point),.str veh,.str y.name,.int .i64 (max M 1),.ro (l.map aa)]:=by
    obtain⟨q1,q2,q3,q4⟩:=hTr;simp only [aH,hTi,q1,q2,q3,q4];simp
   have hbG:=aJ hw.blk G;have hmG:=aJ hw.mp G;have htG:=hw.trips.more G;have hoG:=hw.out.more G;have hlo:=hw.low;have hlo2:=aK hw.blk;have hKG:qA lo h (h++G):=(qA.refl lo h).more G;obtain⟨c3,hc3⟩: ∃c3:cZ,c3= .cells 5 [aH T]:=⟨_,rfl⟩;have hbG3:=at3 hbG;have hbG4:=at3 (aJ hbG [c3]);have htf:=hw.trips.rs.fix;have huf:=hw.out.rs.fix;simp only [jO] at hbG3 hbG4;rw [hTc] at hc3;rw [hG] at hbG3 hbG4;rw [hc3] at hbG4;simp only [zK,List.cons_append] at hbG3 hbG4;simp [yF,-ae,-ai,-ah,-AV.solid,aa,e0,e1,e2,e8,hkq,hpos,ha,ha',hbG3,hbG4,htf];refine⟨by omega,by omega,by decide,?_⟩;have hHe:h++c1:: .cells 5 [[.str (before++43::a.point),.str veh,.str y.name,.int .i64 (max M 1),.ro (l.map aa)]]::(g++[.cells 5 [[.str (before++43::a.point),.str veh,.str y.name,.int .i64 (max M 1),.ro (l.map aa)]]])=h++(G++[c3]):=by rw [hG,hc3];simp
   have hap:bu Tryz.prog (h++(G++[c3])) [32,32] 5 (.own (h.length+(g.length+1+1)) 0 1) [aH T]:=by rw [hG,hc3,hTc];simp [bu]
   rw [hHe];have hB5:=aJ hw.blk (G++[c3]);have hM5:=aJ hw.mp (G++[c3]);have hT5:=hw.trips.more (G++[c3]);have hO5:=hw.out.more (G++[c3]);have hK5:=(qA.refl lo h).more (G++[c3]);have hlt5:=aK hB5;refine aG (lo:=lo) (n:=5) (es:=w.trips.map aH) (ys:=[aH T]) hT5 (by omega) hap (by simp;omega) ?_;intro s1 H1 hs1 hg1 hn1;have hs1f:=hs1.rs.fix;have hb1:=hg1.keep b _ hB5 (oM hT5 hB5 (by decide));have hm1:=hg1.keep mb _ hM5 (lL hT5 hM5);have ho1:=fO hO5 hT5 (by decide) hg1;have hk1:=hK5.grow hT5 (by decide) hg1;have hb13:=at3 hb1;have hbq:=at3 hB5;simp only [jO] at hb13 hbq;simp [yF,-ae,-ai,-ah,-AV.solid,e0,e1,e2,e8,hs1f,hb13,hbq,htf];refine⟨⟨s1,?_⟩,hk1.set hb1 (by decide) hlo _⟩;refine⟨?_,get_put hb1 hm1 (pV hb1 hm1),?_,gM ho1 hb1 (by decide) _,hw.low,hw.lom⟩
   ·rw [zI hb13.2.1];simp [jO]
   ·have:=gM hs1 hb1 (by decide) (.cells 10 [jO t veh mb s1 ou op w.before w.last]);simpa [jO] using this
  ·rw [if_neg hI] at hTi;have hGl: ∀g':ak,T=T→True:=fun _ _=>trivial;obtain⟨G,hG⟩: ∃G:ak,G=c1:: .cells 5 [[.str I,.str veh,.str y.name,.int .i64 (max M 1),.ro (l.map aa)]]::g:=⟨_,rfl⟩;have hTc:aH T=[.str I,.str veh,.str y.name,.int .i64 (max M 1),.ro (l.map aa)]:=by
    obtain⟨q1,q2,q3,q4⟩:=hTr;simp only [aH,hTi,q1,q2,q3,q4]
   have hbG:=aJ hw.blk G;have hmG:=aJ hw.mp G;have htG:=hw.trips.more G;have hoG:=hw.out.more G;have hlo:=hw.low;have hlo2:=aK hw.blk;have hKG:qA lo h (h++G):=(qA.refl lo h).more G;obtain⟨c3,hc3⟩: ∃c3:cZ,c3= .cells 5 [aH T]:=⟨_,rfl⟩;have hbG3:=at3 hbG;have hbG4:=at3 (aJ hbG [c3]);have htf:=hw.trips.rs.fix;have huf:=hw.out.rs.fix;simp only [jO] at hbG3 hbG4;rw [hTc] at hc3;rw [hG] at hbG3 hbG4;rw [hc3] at hbG4;simp only [zK,List.cons_append] at hbG3 hbG4;simp [yF,-ae,-ai,-ah,-AV.solid,aa,e0,e1,e2,e8,hI,hbG3,hbG4,htf];refine⟨by decide,?_⟩;have hHe:h++c1:: .cells 5 [[.str I,.str veh,.str y.name,.int .i64 (max M 1),.ro (l.map aa)]]::(g++[.cells 5 [[.str I,.str veh,.str y.name,.int .i64 (max M 1),.ro (l.map aa)]]])=h++(G++[c3]):=by rw [hG,hc3];simp
   have hap:bu Tryz.prog (h++(G++[c3])) [32,32] 5 (.own (h.length+(g.length+1+1)) 0 1) [aH T]:=by rw [hG,hc3,hTc];simp [bu]
   rw [hHe];have hB5:=aJ hw.blk (G++[c3]);have hM5:=aJ hw.mp (G++[c3]);have hT5:=hw.trips.more (G++[c3]);have hO5:=hw.out.more (G++[c3]);have hK5:=(qA.refl lo h).more (G++[c3]);have hlt5:=aK hB5;refine aG (lo:=lo) (n:=5) (es:=w.trips.map aH) (ys:=[aH T]) hT5 (by omega) hap (by simp;omega) ?_;intro s1 H1 hs1 hg1 hn1;have hs1f:=hs1.rs.fix;have hb1:=hg1.keep b _ hB5 (oM hT5 hB5 (by decide));have hm1:=hg1.keep mb _ hM5 (lL hT5 hM5);have ho1:=fO hO5 hT5 (by decide) hg1;have hk1:=hK5.grow hT5 (by decide) hg1;have hb13:=at3 hb1;have hbq:=at3 hB5;simp only [jO] at hb13 hbq;simp [yF,-ae,-ai,-ah,-AV.solid,e0,e1,e2,e8,hs1f,hb13,hbq,htf];refine⟨⟨s1,?_⟩,hk1.set hb1 (by decide) hlo _⟩;refine⟨?_,get_put hb1 hm1 (pV hb1 hm1),?_,gM ho1 hb1 (by decide) _,hw.low,hw.lom⟩
   ·rw [zI hb13.2.1];simp [jO]
   ·have:=gM hs1 hb1 (by decide) (.cells 10 [jO t veh mb s1 ou op w.before w.last]);simpa [jO] using this
end Go.Proofs.YtkpioblbeiaefaaGreat
end
