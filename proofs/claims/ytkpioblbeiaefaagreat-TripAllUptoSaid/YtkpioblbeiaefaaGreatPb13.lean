/- Part 13 of the lemmas below the statements of this seat: TripD, Text, Pass17, TollPassO, PassA. -/
import Derived.Test.YtkpioblbeiaefaaGreatPb12
set_option linter.unusedSectionVars false
set_option linter.unusedVariables false
set_option linter.unusedSimpArgs false
set_option linter.unnecessarySimpa false
set_option maxRecDepth 100000
section
namespace Go.Proofs.YtkpioblbeiaefaaGreat
open Go Go.Abs Go.Toll
variable {gl : aR} {h : ak}
theorem Xw (l:List bq): ∀e∈l.map aa,e.length=3:=fun e he=>by
 obtain⟨m,_,rfl⟩:=List.mem_map.1 he;rfl
theorem IJ (l:List bq): ∀e∈l.map aa,∀y∈e,y.Data:=fun e he y hy=>by
 obtain⟨m,_,rfl⟩:=List.mem_map.1 he;simp [aa] at hy;rcases hy with rfl | rfl | rfl <;> simp
theorem EZ (l:List bq)(k:Nat)(hk:h[k]? =some (.cells 3 (l.map aa)))(hl:l.length≤1000000):af Tryz.prog gl 143 [.own k 0 l.length] h fun v h'=>v= .ro (l.map aa)∧h'=h:=by
 refine af.fresh' (af.body Tryz.f143 _ mixed Tryz.func143 rfl rfl (by simp [Tryz.ntmps143]) ?_);have hr:Rs 3 h (.own k 0 l.length) (l.map aa):=by simpa using Rs.own hk (Xw l)
 simp [-ae,-ai];refine aG (lo:=h.length) (n:=3) (es:=[]) (ys:=l.map aa) (Ls.own (by simp) (by omega) rfl (by simp)) (by simp) (bL (hr.append _) (by simp) (by simp) (by simp)) (by simp;omega) ?_;intro s1 H1 hs1 hg1 hn1;have hs1f:=hs1.rs.fix;simp [-ah,-AV.solid,hs1f];exact⟨hg1.base h (by omega) ⟨_,rfl⟩,hs1.frz (Nat.le_refl _) (IJ _)⟩
theorem R7 (n:Int):af Tryz.prog gl 172 [.int .i64 n] h fun v h'=>v= .bool (decide (1≤n∧n≤9))∧h'=h:=by
 refine af.data (.bool _) (af.body Tryz.f172 _ mixed Tryz.func172 rfl rfl (by simp [Tryz.ntmps172]) ?_);by_cases c:1≤n
 ·simp [c]
 ·simp [c]
def mP (l:List Int)(c:Nat):Int:=if c=0 then 0 else (jc l c:Int)
def lW (l:List Int):List AV:=(List.range 10).map fun c=> .int .i64 (mP l c)
theorem rE (l:List Int) {c:Nat} (h:c<10):(lW l)[c]? =some (.int .i64 (mP l c)):=by simp [lW,h]
theorem vo (l:List Int):(lW l).length=10:=by simp [lW]
theorem zQ (l:List Int)(n c:Int):jc (l++[n]) c=if n=c then jc l c+1 else jc l c:=by
 unfold jc;rw [List.filter_append,List.length_append];by_cases e:n=c <;> simp [e]
theorem TS (l:List Int) {n:Nat} (h0:1≤n)(h1:n<10):(lW l).set n (.int .i64 (mP l n+1))=lW (l++[(n:Int)]):=by
 refine List.ext_getElem? fun c=> ?_;rw [List.getElem?_set];by_cases e:n=c
 ·subst e;rw [if_pos rfl,if_pos (by rw [vo];exact h1),rE _ h1];unfold mP;rw [if_neg (by omega),if_neg (by omega),zQ,if_pos rfl]
  push_cast
  rfl
 ·rw [if_neg e];rcases zN c 10 with q | q
  ·rw [rE _ q,rE _ q];unfold mP;split
   ·rfl
   ·rw [zQ,if_neg (by omega)]
  ·rw [List.getElem?_eq_none (by rw [vo];exact q),List.getElem?_eq_none (by rw [vo];exact q)]
theorem Rc (l:List Int) {n:Int} (h: ¬(1≤n∧n≤9)):lW (l++[n])=lW l:=by
 unfold lW;refine List.map_congr_left fun c hc=> ?_;have hc':=List.mem_range.1 hc;unfold mP;split
 ·rfl
 ·rw [zQ,if_neg (by omega)]
theorem UL (l:List Int)(c:Int):jc l c≤l.length:=List.length_filter_le _ _
def encI' (n:Int):List AV:=[.int .i64 n]
set_option maxHeartbeats 2000000 in
theorem C9 (l:List Int)(x:AV)(hx:Rs 1 h x (l.map encI'))(hl:l.length≤100000):af Tryz.prog gl 144 [x] h fun v h'=>v= .int .i64 (BM l)∧h'=h:=by
 refine af.data (by simp) (af.body Tryz.f144 _ mixed Tryz.func144 rfl rfl (by simp [Tryz.ntmps144]) ?_);have fx:=hx.fix;have lx:=(hx.append [.cells 10 [lW []]]).len2;have h0:lW []=[.int .i64 0,.int .i64 0,.int .i64 0,.int .i64 0,.int .i64 0,.int .i64 0,.int .i64 0,.int .i64 0,.int .i64 0,.int .i64 0]:=rfl;rw [h0] at lx;simp [fx,lx];refine aW.up mixed l.length (fun i fr H=>fr 3= .ptr h.length 0 0∧fr 9=x∧fr 10= .int .i64 l.length∧fr 11= .int .i64 i∧H=h++[.cells 10 [lW (l.take i)]]) 0 (by omega) ⟨by simp,by simp,by simp,by simp,by simp [h0]⟩ ?_;rintro i fr H hi ⟨e3,e9,e10,e11,rfl⟩;have hxH:=hx.append [.cells 10 [lW (l.take i)]];have fxH:=hxH.fix;have lxH:=hxH.len2;rcases zN i l.length with hlt | hge
 ·obtain⟨n,hn,hn'⟩:=aN hlt;have ew:=aB (i:=i) (by omega);have rx:=Rs.ix Tryz.prog hxH i (by omega) (y:=encI' n) (by simp [hn]);simp only [encI'] at rx;have htk:l.take (i+1)=l.take i++[n]:=by rw [zM,hn];rfl
  simp [e3,e9,e10,e11,hlt,fxH,lxH,rx];refine ay.pure _ (fun _=>R7 n) ?_;by_cases c:1≤n∧n≤9
  ·obtain⟨k,rfl⟩: ∃k:Nat,n=k:=⟨n.toNat,by omega⟩;have hk1:1≤k:=by omega
   have hk9:k<10:=by omega
   have hk9':k≤9:=by omega
   have hg:=rE (l.take i) hk9;have hg':=(zA.1 hg).2;have hrl:=vo (l.take i);have hcn:=UL (l.take i) k;have htl:=List.length_take_le i l;have hc0:mP (l.take i) k=(jc (l.take i) k:Int):=by unfold mP;rw [if_neg (by omega)]
   have w1:IntKind.i64.wrap (mP (l.take i) k+1)=mP (l.take i) k+1:=aD (by omega) (by omega);have hset:=TS (l.take i) hk1 hk9;have hset':(lW (l.take i)).take k++AV.int .i64 (mP (l.take i) k+1)::(lW (l.take i)).drop (k+1)=lW (l.take i++[(k:Int)]):=by
    rw [←hset,List.set_eq_take_append_cons_drop,if_pos (by rw [hrl];exact hk9)]
   simp [e3,e9,e10,e11,hk1,hk9,hk9',hg,hg',hrl,w1,hset,ew];exact⟨fun _ _=>⟨by omega,i+1,by omega,by omega,by omega,by rw [htk,←hset']⟩,fun hc=>absurd (hc (by omega)) (by omega)⟩
  ·have hsk:=Rc (l.take i) c;simp [e3,e9,e10,e11,c,ew];exact⟨i+1,by omega,by omega,by omega,by rw [htk,hsk]⟩
 ·obtain rfl:i=l.length:=by omega
  rw [List.take_length];have hrl:=vo l;have ht10:(lW l).take 10=lW l:=zG (by omega);simp [e3,e9,e10,e11,hrl,ht10];refine aW.up mixed 10 (fun i fr H=>fr 3= .ptr h.length 0 0∧fr 6= .int .i64 (kL l (i - 1))∧fr 23= .agg (lW l)∧fr 24= .int .i64 i∧H=h++[.cells 10 [lW l]]) 0 (by omega) ⟨by simp [e3],by simp [kL],by simp,by simp,rfl⟩ ?_;clear e3 e9 e10 e11;rintro i fr H hi ⟨e3,e6,e23,e24,rfl⟩;rcases zN i 10 with hlt | hge
  ·have ew:=aB (i:=i) (by omega);have hq:(i:Int)<10:=by omega
   have hg:=rE l hlt;have hg': ∀hh:i<(lW l).length,(lW l)[i]'hh= .int .i64 (mP l i):=fun _=>(zA.1 hg).2
   cases i with
   | zero=>
    have hg0:(lW l)[0]? =some (.int .i64 (mP l 0)):=hg;have hg0': ∀hh:0<(lW l).length,(lW l)[0]'hh= .int .i64 (mP l 0):=hg';simp [e3,e6,e23,e24,hg0,hg0',hrl];exact⟨1,by omega,by omega,by simp [kL],by decide⟩
   | succ j=>
    have hr:=Ea l j;obtain⟨b,hb⟩: ∃b:Nat,kL l j=b:=⟨(kL l j).toNat,by omega⟩;have hb10:b<10:=by omega
    have hb10q:(b:Int)<10:=by omega
    have hgb:=rE l hb10;have hgb': ∀hh:b<(lW l).length,(lW l)[b]'hh= .int .i64 (mP l b):=fun _=>(zA.1 hgb).2;have hc1:mP l (j+1)=(jc l ((j+1:Nat):Int):Int):=by unfold mP;rw [if_neg (by omega)]
    have hjp:(0:Int)<((j+1:Nat):Int):=by omega
    have hm:kL l (j+1)=if 0<jc l ((j+1:Nat):Int)∧(kL l j=0∨jc l (kL l j)<jc l ((j+1:Nat):Int)) then ((j+1:Nat):Int) else kL l j:=rfl
    have e6':fr 6= .int .i64 b:=by rw [e6,Nat.add_sub_cancel,hb]
    rw [hb] at hm;have fin: ∀v:Int,kL l (j+1)=v→ ∃k',j+1<k'∧k'≤10∧v=kL l (k' - 1)∧((j+1+1:Nat):Int)=(k':Int):=fun v hv=>⟨j+1+1,by omega,by omega,hv.symm,rfl⟩;by_cases c1:0<jc l ((j+1:Nat):Int)
    ·have c1':(0:Int)<mP l (j+1):=by rw [hc1];omega
     by_cases c2:b=0
     ·subst c2;rw [if_pos ⟨c1,.inl rfl⟩] at hm;simp [-Int.natCast_add,e3,e6',e23,e24,hlt,hq,hg,hg',hrl,hjp,c1',ew];simpa using fin _ hm
     ·have c2': ¬(b:Int)=0:=by omega
      have hcb:mP l b=(jc l (b:Int):Int):=by unfold mP;rw [if_neg c2]
      by_cases c3:jc l (b:Int)<jc l ((j+1:Nat):Int)
      ·rw [if_pos ⟨c1,.inr c3⟩] at hm;have c3':mP l b<mP l (j+1):=by rw [hcb,hc1];omega
       simp [-Int.natCast_add,e3,e6',e23,e24,hlt,hq,hg,hg',hgb,hgb',hb10,hb10q,hrl,hjp,c1',c2,c2',c3',ew];simpa using fin _ hm
      ·rw [if_neg (by rintro⟨_,q | q⟩;exact c2' q;exact c3 q)] at hm;have c3': ¬mP l b<mP l (j+1):=by rw [hcb,hc1];omega
       simp [-Int.natCast_add,e3,e6',e23,e24,hlt,hq,hg,hg',hgb,hgb',hb10,hb10q,hrl,hjp,c1',c2,c2',c3',ew];simpa using fin _ hm
    ·have c1': ¬(0:Int)<mP l (j+1):=by rw [hc1];omega
     rw [if_neg (by rintro⟨q,_⟩;exact c1 q)] at hm;simp [-Int.natCast_add,e3,e6',e23,e24,hlt,hq,hg,hg',hrl,hjp,c1',ew];simpa using fin _ hm
  ·obtain rfl:i=10:=by omega
   simp [e3,e6,e23,e24];rfl
theorem fZ (l:List Bytes): ∀e∈l.map aO,∀y∈e,y.Data:=by
 intro e he y hy;obtain⟨s,_,rfl⟩:=List.mem_map.1 he;simp [aO] at hy;subst hy;simp
theorem wo (l:List Bytes): ∀e∈l.map aO,e.length=1:=by
 intro e he;obtain⟨s,_,rfl⟩:=List.mem_map.1 he;rfl
theorem sN (a b:Bytes)(ha:fU a):af Tryz.prog gl 92 [.str a,.str b] h fun v h'=>v= .bool (Op.bytesLess a b)∧h'=h:=by
 refine af.data (.bool _) (af.body Tryz.f92 _ mixed Tryz.func92 rfl rfl (by simp [Tryz.ntmps92]) ?_);unfold fU at ha;simp;refine aW.up mixed a.length (fun i fr h'=>fr 0= .str a∧fr 1= .str b∧fr 5= .int .i64 i∧i≤b.length∧Op.bytesLess a b=Op.bytesLess (a.drop i) (b.drop i)∧ ∃g,h'=h++g) 0 (by omega) ⟨by simp,by simp,by simp,by omega,by simp,[],by simp⟩ ?_;rintro i fr h' hi ⟨e0,e1,e5,hib,hf,g,rfl⟩;by_cases hlt:i<a.length∧i<b.length
 ·obtain⟨x,hx,hx'⟩:=aN hlt.1;obtain⟨y,hy,hy'⟩:=aN hlt.2;rw [QE hx hy] at hf;have ew:IntKind.i64.wrap ((i:Int)+1)=((i+1:Nat):Int):=by rw [aD (by omega) (by omega)];omega
  have hl1:=hlt.1;have hl2:=hlt.2;simp [e0,e1,e5,hl1,hl2,hx,hx',hy,hy',ew,aaq];refine⟨by decide,fun q=>⟨by decide,?_⟩,fun q=>⟨i+1,by omega,by omega,by omega,by omega,?_⟩⟩
  ·rw [hf,beq_eq_false_iff_ne.2 q,Bool.false_and,Bool.or_false];exact decide_eq_decide.2 UInt8.lt_iff_toNat_lt.symm
  ·subst q;rw [hf];simp
 ·have he:a.length≤i∨b.length≤i:=by omega
  rw [Sr he hi hib] at hf;have hn:i<a.length→b.length≤i:=by omega
  simp [e0,e1,e5,hf];exact fun c1 c2=>absurd ⟨c1,c2⟩ hlt
theorem qm (l:List Bytes)(s:Bytes)(x:AV)(hR:Rs 1 h x (l.map aO))(hl:l.length≤1000000):af Tryz.prog gl 203 [x,.str s] h fun v h'=>v= .bool (decide (s∈l))∧h'=h:=by
 refine af.data (.bool _) (af.body Tryz.f203 _ mixed Tryz.func203 rfl rfl (by simp [Tryz.ntmps203]) ?_);have hf:=hR.fix;simp [hf];refine aW.up mixed l.length (fun i fr h'=>fr 0=x∧fr 1= .str s∧fr 5= .int .i64 i∧(s∈l↔s∈l.drop i)∧h'=h) 0 (by omega) ⟨by simp,by simp,by simp,by simp,by simp⟩ ?_;rintro i fr h' hi ⟨e0,e1,e5,hm,rfl⟩;rcases zN i l.length with hlt | hge
 ·obtain⟨y,hy,hy'⟩:=aN hlt;rw [bF hy,List.mem_cons] at hm;have ew:=aB (i:=i) (by omega);have rx:=Rs.ix Tryz.prog hR i (by omega) (y:=[.str y]) (by simp [hy,aO]);simp [e0,e1,e5,hlt,hf,hR.len2,rx,ew];refine⟨fun q=>hm.2 (.inl q.symm),fun q=>⟨i+1,by omega,by omega,by omega,hm.trans ⟨fun e=>e.resolve_left fun e=>q e.symm,.inr⟩⟩⟩
 ·rw [zH hge] at hm;simp [e0,e1,e5,hf,hR.len2,Nat.not_lt.2 hge];intro e;simpa using hm.1 e
theorem yU (l:List Bytes)(s:Bytes)(x:AV)(hx:Rn x (l.map aO))(hs:fU s)(hl:l.length≤1000000):af Tryz.prog gl 55 [x,.str s] h fun v h'=>v= .ro ((pz l s).map aO)∧h'=h:=by
 refine af.fresh (af.body Tryz.f55 _ mixed Tryz.func55 rfl rfl (by simp [Tryz.ntmps55]) ?_);have hR:=hx.rs (n:=1) h (wo l);have hxf:=hR.fix;simp [hxf];refine aW.up mixed l.length (fun i fr h'=>fr 0=x∧fr 1= .str s∧fr 7= .int .i64 i∧s∉l.take i∧ ∃out done o g,fr 5=o∧fr 6= .bool done∧Ls 1 h.length h' o (out.map aO)∧(s∉l→zY s l=out++(if done=true then l.drop i else zY s (l.drop i)))∧out.length≤i+done.toNat∧h'=h++g) 0 (by omega)
  ⟨by simp,by simp,by simp,by simp,[],false,.nil,[],by simp,by simp,Ls.nil,by simp,by simp,by simp⟩ ?_
 rintro i fr h' hi ⟨e0,e1,e7,hnt,out,done,o,g,e5,e6,hL,hm,hol,rfl⟩;have hf:=hL.rs.fix;have hdn:done.toNat≤1:=by cases done <;> simp
 have hR:=hR.append g;rcases zN i l.length with hlt | hge
 ·obtain⟨y,hy,hy'⟩:=aN hlt;have ew:=aB (i:=i) (by omega);have rx:=Rs.ix Tryz.prog hR i (by omega) (y:=[.str y]) (by simp [hy,aO]);by_cases hne:y=s
  ·subst hne;have hin:y∈l:=zF hy;simp [hR.len2,hxf,e0,e1,e7,hlt,rx,e5,e6];rw [pz,if_pos hin];rcases hx with rfl | ⟨_,e⟩
   ·exact .data _ (.ro _ (fZ _))
   ·simp at e;subst e;cases hin
  have hnt2:s∉l.take (i+1):=by
   rw [zM,hy];simp only [Option.toList_some,List.mem_append,List.mem_singleton];rintro (e | e)
   ·exact hnt e
   ·exact hne e.symm
  simp [hR.len2,hxf,e0,e1,e7,hlt,rx,hne,e5,e6];refine ay.pure _ (fun _=>sN s y hs) ?_;simp [-ae,-ai,hR.len2,hxf,e0,e1,e5,e6,e7,hlt,rx,hf];rw [bF hy,zY] at hm;refine⟨fun c1 c2=> ?_,fun c1=> ?_⟩
  ·subst c1;refine nT (lo:=h.length) (n:=1) (es:=out.map aO) (ys:=[aO s]) (by simpa [aO] using hL.more [.cells 1 [aO s]]) (by simp) (by simp [bu,aO]) (by simp;omega) ?_;intro s1 h1 hs1 hg1;obtain⟨g1,rfl⟩:=hg1.base h (by simp) ⟨_,by simp;rfl⟩;have r1:=Rs.ix Tryz.prog ((hx.rs (n:=1) h (wo l)).append g1) i (by omega) (y:=[.str y]) (by simp [hy,aO]);simp [-ae,-ai,e0,e1,e5,e6,e7,hlt,hs1.rs.fix,hxf,r1];refine nT (lo:=h.length) (n:=1) (es:=out.map aO++[aO s]) (ys:=[aO y]) (by simpa [aO] using hs1.more [.cells 1 [aO y]]) (by simp) (by simp [bu,aO]) (by simp;omega) ?_;intro s2 h2 hs2 hg2;obtain⟨g2,rfl⟩:=hg2.base h (by simp) ⟨_,by simp;rfl⟩;simp [-ae,-ai,e0,e1,e5,e6,e7,hlt,hs2.rs.fix,ew];refine⟨i+1,by omega,by omega,by omega,hnt2,out++[s,y],by simpa using hs2,fun hn=> ?_,by simp at hol ⊢;omega⟩;rw [hm hn];simp [c2]
  ·refine nT (lo:=h.length) (n:=1) (es:=out.map aO) (ys:=[aO y]) (by simpa [aO] using hL.more [.cells 1 [aO y]]) (by simp) (by simp [bu,aO]) (by simp;omega) ?_;intro s1 h1 hs1 hg1;obtain⟨g1,rfl⟩:=hg1.base h (by simp) ⟨_,by simp;rfl⟩;simp [-ae,-ai,e0,e1,e5,e6,e7,hlt,hs1.rs.fix,ew];refine⟨i+1,by omega,by omega,by omega,hnt2,?_⟩;cases done
   ·have c2:=c1 rfl;exact⟨out++[y],.inl ⟨rfl,by simpa using hs1,fun hn=>by rw [hm hn];simp [c2],by simp at hol ⊢;omega⟩⟩
   ·exact⟨out++[y],.inr ⟨rfl,by simpa using hs1,fun hn=>by rw [hm hn];simp,by simp at hol ⊢;omega⟩⟩
 ·obtain rfl:i=l.length:=by omega
  rw [List.take_length] at hnt;have hm:=hm hnt;rw [List.drop_length] at hm;have hins:pz l s=zY s l:=by rw [pz,if_neg hnt]
  simp [-ae,-ai,hR.len2,hxf,e0,e1,e5,e6,e7,hf];refine⟨fun c=> ?_,fun c=> ?_⟩
  ·subst c;refine nT (lo:=h.length) (n:=1) (es:=out.map aO) (ys:=[aO s]) (by simpa [aO] using hL.more [.cells 1 [aO s]]) (by simp) (by simp [bu,aO]) (by simp;omega) ?_;intro s1 h1 hs1 hg1;obtain⟨g1,rfl⟩:=hg1.base h (by simp) ⟨_,by simp;rfl⟩;simp [hs1.rs.fix];have e:pz l s=out++[s]:=by rw [hins,hm];simp [zY]
   rw [e];have:=hs1.frz (m:=h.length) (by omega) (by rw [←List.map_singleton,←List.map_append];exact fZ _);simpa using this
  ·subst c;have e:pz l s=out:=by rw [hins,hm];simp
   rw [e];have:=hL.frz (m:=h.length) (by omega) (fZ _);simpa using this
theorem Aj (a b:List Bytes)(hl:a.length≤1000000)(hsa: ∀s∈a,fU s)(x y:AV)(hx:Rs 1 h x (a.map aO))(hy:Rs 1 h y (b.map aO))(hlb:b.length≤1000000):af Tryz.prog gl 179 [x,y] h fun v h'=>v= .int .i64 (fq a b)∧h'=h:=by
 refine af.data (.int _ _) (af.body Tryz.f179 _ mixed Tryz.func179 rfl rfl (by simp [Tryz.ntmps179]) ?_);have fx:=hx.fix;have fy:=hy.fix;simp [fx,fy,hx.len2,hy.len2];refine aW.up mixed a.length (fun i fr h'=>fr 0=x∧fr 1=y∧fr 5= .int .i64 i∧i≤b.length∧fq a b=fq (a.drop i) (b.drop i)∧h'=h) 0 (by omega) ⟨by simp,by simp,by simp,by omega,by simp,by simp⟩ ?_;rintro i fr h' hi ⟨e0,e1,e5,hib,hf,rfl⟩;by_cases hlt:i<a.length∧i<b.length
 ·obtain⟨s,hs,hs'⟩:=aN hlt.1;obtain⟨t,ht,ht'⟩:=aN hlt.2;rw [bF hs,bF ht,fq] at hf;have ew:=aB (i:=i) (by omega);have rx:=Rs.ix Tryz.prog hx i (by omega) (y:=[.str s]) (by simp [hs,aO]);have ry:=Rs.ix Tryz.prog hy i (by omega) (y:=[.str t]) (by simp [ht,aO]);have h1:=hlt.1;have h2:=hlt.2;simp [e0,e1,e5,h1,h2,fx,fy,hx.len2,hy.len2,rx,ry,ew];refine⟨by decide,fun hne=>⟨by decide,?_⟩,fun he=>⟨i+1,by omega,by omega,by omega,by omega,?_⟩⟩
  ·refine ay.pure _ (fun _=>sN s t (hsa s (zF hs))) ?_;have hz:mO s t≠0:=fun e=>hne (jy.1 e);rw [if_neg hz] at hf;simp [e0,e1,e5,h1,h2,fx,fy,hx.len2,hy.len2,rx,ry];refine⟨fun c=> ?_,fun c=> ?_⟩
   ·rw [hf,mO,if_pos c]
   ·rw [hf,mO,if_neg (by simp [c]),if_neg hne]
  ·rw [hf,if_pos (jy.2 he)]
 ·have hg: ¬(i<a.length∧i<b.length):=hlt;rcases zN i a.length with h1 | h1
  ·have h2:i=b.length:=by omega
   subst h2;rw [List.drop_length] at hf;obtain⟨z,l,hzl⟩:=List.exists_cons_of_ne_nil (l:=a.drop b.length) (by intro e;have:=congrArg List.length e;simp at this;omega);rw [hzl,fq] at hf;have h3: ¬(a.length:Int)<b.length:=by omega
   have h4:b.length<a.length:=h1;simp [e0,e1,e5,h1,fx,fy,hx.len2,hy.len2,h3,h4,hf]
  ·obtain rfl:i=a.length:=by omega
   rw [List.drop_length] at hf;rcases zN a.length b.length with h2 | h2
   ·obtain⟨z,l,hzl⟩:=List.exists_cons_of_ne_nil (l:=b.drop a.length) (by intro e;have:=congrArg List.length e;simp at this;omega);rw [hzl,fq] at hf;simp [e0,e1,e5,fx,fy,hx.len2,hy.len2,h2,hf]
   ·have:b.length=a.length:=by omega
    rw [zH (by omega),fq] at hf;simp [e0,e1,e5,fx,fy,hx.len2,hy.len2,this,hf]
theorem JV (d e:Int)(p q:List Bytes)(hl:p.length≤1000000)(hsa: ∀s∈p,fU s)(x y:AV)(hx:Rs 1 h x (p.map aO))(hy:Rs 1 h y (q.map aO))(hlb:q.length≤1000000):af Tryz.prog gl 163 [.int .i64 d,x,.int .i64 e,y] h fun v h'=>v= .bool (Je d p e q)∧h'=h:=by
 refine af.data (.bool _) (af.body Tryz.f163 _ mixed Tryz.func163 rfl rfl (by simp [Tryz.ntmps163]) ?_);have fx:=hx.fix;have fy:=hy.fix;have hq0:((q.length:Int)=0)↔q=[]:=by rw [←List.length_eq_zero_iff];omega
 have hb0:((q.length:Int)==0)=decide (q=[]):=by rw [Bool.eq_iff_iff];simp [hq0]
 simp [fx,fy,hx.len2,hy.len2,hq0];refine⟨fun c=> ?_,fun c1 c2=>⟨fun c3=> ?_,fun c3=> ?_⟩⟩
 ·rw [Je,if_pos c,hb0]
 ·rw [Je,if_neg (by rintro (c | c);exact c1 c;exact c c2),if_pos (by omega)]
 ·refine ay.pure _ (fun _=>Aj p q hl hsa x y hx hy hlb) ?_;simp;rw [Je,if_neg (by rintro (c | c);exact c1 c;exact c c2),if_neg (by omega)]
theorem iU (a b:Int):af Tryz.prog gl 127 [.int .i64 a,.int .i64 b] h fun x h'=>x= .int .i64 (iF a b)∧h'=h:=by
 refine af.data (.int _ _) (af.body Tryz.f127 _ mixed Tryz.func127 rfl rfl (by simp [Tryz.ntmps127]) ?_);unfold iF;by_cases h1:a<b
 ·simp [h1]
 ·by_cases h2:b<a <;> simp [h1,h2]
theorem mH (a b:Bytes)(ha:fU a):af Tryz.prog gl 128 [.str a,.str b] h fun x h'=>x= .int .i64 (jb a b)∧h'=h:=by
 refine af.data (.int _ _) (af.body Tryz.f128 _ mixed Tryz.func128 rfl rfl (by simp [Tryz.ntmps128]) ?_);unfold jb;by_cases h1:a=b
 ·simp [h1]
 ·simp [h1];refine ay.pure _ (fun _=>sN a b ha) ?_;cases hb:Op.bytesLess a b <;> simp
theorem wS (a b:kg)(ha:fU a.dev):af Tryz.prog gl 97 [.agg (cz a),.agg (cz b)] h fun x h'=>x= .int .i64 (fK a b)∧h'=h:=by
 refine af.data (.int _ _) (af.body Tryz.f97 _ mixed Tryz.func97 rfl rfl (by simp [Tryz.ntmps97]) ?_);unfold fK;by_cases h1:a.dev=b.dev
 ·simp [cz,h1];refine ay.pure _ (fun _=>iU a.seq b.seq) ?_;simp
 ·simp [cz,h1];refine ay.pure _ (fun _=>mH a.dev b.dev ha) ?_;simp
theorem yu {a b:List kg} {i:Nat} {x y:kg} (hx:a[i]? =some x)(hy:b[i]? =some y):dI (a.drop i) (b.drop i)=if fK x y≠0 then fK x y else dI (a.drop (i+1)) (b.drop (i+1)):=by
 rw [bF hx,bF hy,dI]
theorem uw {a b:List kg} {i:Nat} (h:a.length≤i∨b.length≤i)(h1:i≤a.length)(h2:i≤b.length):dI (a.drop i) (b.drop i)=iF a.length b.length:=by
 have e1:iF a.length b.length=iF (a.drop i).length (b.drop i).length:=by
  have:=R9 (a.drop i).length (b.drop i).length i;rw [←this,List.length_drop,List.length_drop,show i+(a.length - i)=a.length by omega,show i+(b.length - i)=b.length by omega]
 rw [e1];rcases h with h | h
 ·rw [zH h];cases b.drop i <;> rfl
 ·rw [zH h];cases a.drop i <;> rfl
set_option maxHeartbeats 2000000 in
theorem L9 (a b:List kg)(ha: ∀s∈a,fU s.dev)(hla:a.length≤maxLen):af Tryz.prog gl 129 [.ro (a.map cz),.ro (b.map cz)] h fun x h'=>x= .int .i64 (dI a b)∧h'=h:=by
 refine af.data (.int _ _) (af.body Tryz.f129 _ mixed Tryz.func129 rfl rfl (by simp [Tryz.ntmps129]) ?_);have hla:a.length≤9223372036854775807:=hla;simp;refine aW.up mixed a.length (fun i fr H=>fr 0= .ro (a.map cz)∧fr 1= .ro (b.map cz)∧fr 5= .int .i64 i∧i≤b.length∧dI a b=dI (a.drop i) (b.drop i)∧ ∃g,H=h++g) 0 (by omega) ⟨by simp,by simp,by simp,by omega,by simp,[],by simp⟩ ?_;rintro i fr H hi ⟨e0,e1,e5,hib,hf,g,rfl⟩;by_cases hlt:i<a.length∧i<b.length
 ·obtain⟨x,hx,hx'⟩:=aN hlt.1;obtain⟨y,hy,hy'⟩:=aN hlt.2;rw [yu hx hy] at hf;have ew:IntKind.i64.wrap ((i:Int)+1)=((i+1:Nat):Int):=by rw [aD (by omega) (by omega)];omega
  have hl1:=hlt.1;have hl2:=hlt.2;simp [e0,e1,e5,hl1,hl2,hx,hx',hy,hy',ew,cz];refine⟨by decide,?_⟩;refine ay.pure _ (fun _=>wS x y (ha x (zF hx))) ?_;simp [e0,e1,e5,hl1,hl2,hx,hx',hy,hy',ew];refine⟨fun q=>by rw [hf,if_pos q],fun q=>⟨i+1,by omega,by omega,by omega,by omega,by rw [hf,if_neg (by simpa using q)]⟩⟩
 ·have he:a.length≤i∨b.length≤i:=by omega
  rw [uw he hi hib] at hf;have hn:i<a.length→b.length≤i:=by omega
  have hn': ¬(i<a.length∧i<b.length):=hlt;by_cases c:i<a.length
  ·have c2: ¬i<b.length:=fun q=>hlt ⟨c,q⟩;simp [e0,e1,e5,c,c2];refine ay.pure _ (fun _=>iU a.length b.length) ?_;simp [hf]
  ·simp [e0,e1,e5,c];refine ay.pure _ (fun _=>iU a.length b.length) ?_;simp [hf]
theorem nM {l:List Int} {i:Nat} {x:Int} (hx:l[i]? =some x):dE (l.drop i)=if x≠0 then x else dE (l.drop (i+1)):=by
 rw [bF hx,dE]
set_option maxHeartbeats 4000000 in
theorem Gm (a b:aC)(ha:a.Ok)(hb:b.Ok):af Tryz.prog gl 91 [.agg (aj a),.agg (aj b)] h fun x h'=>x= .int .i64 (uu a b)∧h'=h:=by
 refine af.data (.int _ _) (af.body Tryz.f91 _ mixed Tryz.func91 rfl rfl (by simp [Tryz.ntmps91]) ?_);have e1:=ha.src;have e2:=hb.src;have hn:a.srcs.length≤maxLen:=by have:=ha.n;rw [e1] at this;simpa using this
 obtain⟨c1,h1⟩: ∃c,c=iF a.time b.time:=⟨_,rfl⟩;obtain⟨c2,h2⟩: ∃c,c=jb a.point b.point:=⟨_,rfl⟩;obtain⟨c3,h3⟩: ∃c,c=jb a.id b.id:=⟨_,rfl⟩;obtain⟨c4,h4⟩: ∃c,c=jb a.tag b.tag:=⟨_,rfl⟩;obtain⟨c5,h5⟩: ∃c,c=jb a.plate b.plate:=⟨_,rfl⟩;obtain⟨c6,h6⟩: ∃c,c=iF a.cls b.cls:=⟨_,rfl⟩;obtain⟨c7,h7⟩: ∃c,c=iF a.score b.score:=⟨_,rfl⟩;obtain⟨c8,h8⟩: ∃c,c=dI a.srcs b.srcs:=⟨_,rfl⟩;have hcl:uu a b=dE [c1,c2,c3,c4,c5,c6,c7,c8]:=by rw [uu,cmpL,h1,h2,h3,h4,h5,h6,h7,h8]
 rw [hcl];simp;refine⟨by decide,?_⟩;refine ay.pure (.int .i64 c1) (fun _=>by rw [h1];exact iU a.time b.time) ?_;simp;refine ay.pure (.int .i64 c2) (fun _=>by rw [h2];exact mH a.point b.point ha.point) ?_;simp;refine ay.pure (.int .i64 c3) (fun _=>by rw [h3];exact mH a.id b.id ha.id) ?_;simp;refine ay.pure (.int .i64 c4) (fun _=>by rw [h4];exact mH a.tag b.tag ha.tag) ?_;simp;refine ay.pure (.int .i64 c5) (fun _=>by rw [h5];exact mH a.plate b.plate ha.plate) ?_;simp;refine ay.pure (.int .i64 c6) (fun _=>by rw [h6];exact iU a.cls b.cls) ?_;simp;refine ay.pure (.int .i64 c7) (fun _=>by rw [h7];exact iU a.score b.score) ?_;simp;refine ay.pure (.int .i64 c8) (fun _=>by rw [h8,e1,e2];exact L9 a.srcs b.srcs ha.dev hn) ?_;clear hcl h1 h2 h3 h4 h5 h6 h7 h8;simp;obtain⟨L,hL⟩: ∃L,L=[c1,c2,c3,c4,c5,c6,c7,c8]:=⟨_,rfl⟩;have hLl:L.length=8:=by rw [hL];rfl
 have hLm:[[AV.int .i64 c1],[.int .i64 c2],[.int .i64 c3],[.int .i64 c4],[.int .i64 c5],[.int .i64 c6],[.int .i64 c7],[.int .i64 c8]]=L.map fun c=>[AV.int .i64 c]:=by rw [hL];rfl
 rw [←hL];obtain⟨b0,hb0⟩: ∃b0,b0=h.length+2:=⟨_,rfl⟩;refine aW.up mixed 8 (fun i fr H=>fr 5= .own b0 0 8∧fr 6= .int .i64 i∧dE L=dE (L.drop i)∧H[b0]? =some (.cells 1 (L.map fun c=>[AV.int .i64 c]))∧ ∃g,H=h++g) 0 (by omega) ⟨by simp [hb0],by simp,by simp,by rw [←hLm];simp [hb0],by simp⟩ ?_;rintro i fr H hi ⟨e5,e6,hf,hH,hB⟩;rcases zN i 8 with hlt | hge
 ·obtain⟨x,hx,hx'⟩:=aN (l:=L) (i:=i) (by omega);rw [nM hx] at hf;have hH1:=(zA.1 hH).1;have hH2:=(zA.1 hH).2;have ew:=aB (i:=i) (by omega);have hlt':(i:Int)<8:=by omega
  simp [e5,e6,hlt',hlt,hH,hH1,hH2,hx,hx',hLl,ew];refine⟨fun q=>⟨by rw [hf,if_pos q],hB⟩,fun q=>⟨i+1,by omega,by omega,by omega,by rw [hf,if_neg (by simpa using q)],hB⟩⟩
 ·obtain rfl:i=8:=by omega
  rw [zH (by omega),dE] at hf;simp [e5,e6,hf];exact hB
theorem Ev (l:List aC): ∀e∈l.map aj,e.length=8:=by
 intro e he;obtain⟨s,_,rfl⟩:=List.mem_map.1 he;rfl
end Go.Proofs.YtkpioblbeiaefaaGreat
end
section
namespace Go.Toll
open Go Go.Abs
theorem rz:iV iF:=Ep
theorem nX:iV jb:=by
 refine Eq.mp (congrArg iV ?_) oO;funext a b
 rw [Ch]
theorem mD:iV fK:=by
 refine Eq.mp (congrArg iV ?_) ((nX.comap kg.dev).lex (rz.comap kg.seq));funext a b
 unfold fK;by_cases h:a.dev=b.dev
 ·rw [if_pos h,if_pos (by rw [h];exact GX _)]
 ·rw [if_neg h,if_neg fun e=>h (zP e)]
theorem uz (q:List kg):dI [] q=iF 0 q.length:=by cases q <;> simp [dI]
theorem nK (a:kg)(r:List kg):dI (a::r) []=1:=by
 simp only [dI,List.length_cons,List.length_nil,iF];rw [if_neg (by omega),if_pos (by omega)]
theorem yo: ∀x y:List kg,dI x y<0↔0<dI y x
 | [],[]=>by simp [dI,iF]
 | [],b::q=>by
  rw [nK,uz,List.length_cons,iF,if_pos (by omega)];simp
 | a::r,[]=>by
  rw [nK,uz,List.length_cons,iF,if_pos (by omega)];simp
 | a::r,b::q=>by
  have h1:=mD.anti a b;have h2:=mD.anti b a;have ih:=yo r q;rw [dI,dI];by_cases h:fK a b=0
  ·rw [if_neg (by simpa using h),if_neg (by simpa using mD.zero.1 h)];exact ih
  ·rw [if_pos h,if_pos fun e=>h (mD.zero.1 e)];exact h1
theorem wJ: ∀x y z:List kg,dI x y≤0→dI y z≤0→dI x z≤0
 | [],_,z,_,_=>by
  rw [uz,iF];split
  ·omega
  ·rw [if_neg (by omega)];omega
 | a::r,[],_,h,_=>by rw [nK] at h;omega
 | a::r,b::q,[],_,h=>by rw [nK] at h;omega
 | a::r,b::q,c::s,h1,h2=>by
  rw [dI] at h1 h2 ⊢;have ih:=wJ r q s;have o:=mD;have a1:fK a b≤0:=by by_cases e:fK a b=0;omega;rwa [if_pos e] at h1
  have a2:fK b c≤0:=by by_cases e:fK b c=0;omega;rwa [if_pos e] at h2
  have a3:=o.trans a b c a1 a2;by_cases h:fK a c=0
  ·rw [if_neg (by simpa using h)];have b1:=o.trans c a b (by rw [o.zero.1 h];omega) a1;have b2:=o.trans b c a a2 (by rw [o.zero.1 h];omega);have b3:=o.anti c b;have b4:=o.anti b a;have b5:=o.anti a b;have b6:=o.anti b c;have c1:fK a b=0:=by omega
   have c2:fK b c=0:=by omega
   rw [if_neg (by simpa using c1)] at h1;rw [if_neg (by simpa using c2)] at h2;exact ih h1 h2
  ·rw [if_pos h];omega
theorem JM:iV dI:=⟨yo,wJ⟩
theorem iA {α:Type} {c:α→α→Int} {r:α→α→List Int} (o:iV c)(o':iV fun x y=>dE (r x y)):iV fun x y=>dE (c x y::r x y):=by
 refine Eq.mp (congrArg iV ?_) (o.lex o');funext x y
 rw [dE];by_cases h:c x y=0 <;> simp [h]
theorem rA:iV uu:=by
 have h0:iV fun (x y:aC)=>dE []:=sw;exact iA (rz.comap aC.time) (iA (nX.comap aC.point) (iA (nX.comap aC.id) (iA (nX.comap aC.tag) (iA (nX.comap aC.plate)
  (iA (rz.comap aC.cls) (iA (rz.comap aC.score) (iA (JM.comap aC.srcs) h0)))))))
section
variable {α : Type} {lt lt' : α → α → Bool}
theorem DY {x:α} {l:List α} (h: ∀y∈l,lt x y=lt' x y): ∀k:Nat,gz lt x l k=gz lt' x l k
 | 0=>rfl
 | k+1=>by
  have ih:=DY h k;rw [gz,gz]
  cases hy:l[k]? with
  | none=>rfl
  | some y=>
   simp only;rw [h y (zF hy),ih]
theorem NC {x:α} {l:List α} (h: ∀y∈l,lt x y=lt' x y):gV lt x l=gV lt' x l:=by rw [gV,gV,DY h]
theorem Mq {l:List α} (h: ∀x∈l,∀y∈l,lt x y=lt' x y):aT lt l=aT lt' l:=by
 have key: ∀(r acc:List α),(∀x∈r,x∈l)→(∀x∈acc,x∈l)→r.foldl (fun acc x=>gV lt x acc) acc=r.foldl (fun acc x=>gV lt' x acc) acc:=by
  intro r
  induction r with
  | nil=>intro acc _ _;rfl
  | cons x r ih=>
   intro acc h1 h2;have hx:=h1 x (by simp);rw [List.foldl_cons,List.foldl_cons,NC fun y hy=>h x hx y (h2 y hy)];refine ih _ (fun y hy=>h1 y (by simp [hy])) fun y hy=> ?_;rcases (Eg lt').1 hy with rfl | hy
   ·exact hx
   ·exact h2 y hy
 exact key l [] (fun _ h=>h) (by simp)
end
def pK (x y:fI):Int:=dE [jb x.id y.id,iF x.why y.why]
def bR (l:List fI):List fI:=aT (fun x y=>decide (pK x y<0)) l
theorem lQ:iV pK:=by
 have:=(nX.comap fI.id).lex ((rz.comap fI.why).lex sw);refine Eq.mp (congrArg iV ?_) this;funext x y
 rw [pK,ji]
theorem QU {α β:Type} {f:α→β} {l:List α} (h:(l.map f).Nodup) {x y:α} (hx:x∈l)(hy:y∈l)(e:f x=f y):x=y:=by
 induction l with
 | nil=>cases hx
 | cons a l ih=>
  rw [List.map_cons,List.nodup_cons] at h;rcases List.mem_cons.1 hx with ex | hx' <;> rcases List.mem_cons.1 hy with ey | hy'
  ·rw [ex,ey]
  ·subst ex;exact absurd (List.mem_map.2 ⟨y,hy',e.symm⟩) h.1
  ·subst ey;exact absurd (List.mem_map.2 ⟨x,hx',e⟩) h.1
  ·exact ih h.2 hx' hy'
theorem IB {l:List fI} (h:(l.map (·.id)).Nodup):mW l=bR l:=by
 refine Mq fun x hx y hy=> ?_;by_cases e:x.id=y.id
 ·have:=QU h hx hy e;subst this;rw [NU.self,lQ.self]
 ·have h1:jb x.id y.id≠0:=fun c=>e (zP c);have:pK x y=Db x y:=by rw [pK,ji,if_neg h1];rfl
  rw [this]
end Go.Toll
end
section
namespace Go.Proofs.YtkpioblbeiaefaaGreat
open Go Go.Abs Go.Toll
variable {gl : aR} {h : ak}
theorem Ie: ∀l:List Int,VX l=dE l
 | []=>rfl
 | a::l=>by
  rw [VX,dE,Ie l];by_cases e:a=0 <;> simp [e]
theorem VS (x:Int):af Tryz.prog gl 103 [.int .i64 x] h fun v h'=>v= .bool false∧h'=h:=by
 refine af.data (by simp) (af.body Tryz.f103 _ mixed Tryz.func103 rfl rfl (by simp [Tryz.ntmps103]) ?_);simp
theorem VT (x:Bytes):af Tryz.prog gl 104 [.str x] h fun v h'=>v= .bool false∧h'=h:=by
 refine af.data (by simp) (af.body Tryz.f104 _ mixed Tryz.func104 rfl rfl (by simp [Tryz.ntmps104]) ?_);simp
theorem KJ (x y:Int):af Tryz.prog gl 71 [.int .i64 x,.int .i64 y] h fun v h'=>v= .int .i64 (iF x y)∧h'=h:=by
 refine af.data (by simp) (af.body Tryz.f71 _ mixed Tryz.func71 rfl rfl (by simp [Tryz.ntmps71]) ?_);unfold iF;simp;refine ay.pure _ (fun _=>VS x) ?_;simp;refine ay.pure _ (fun _=>VS y) ?_;simp;refine⟨fun a b=>by omega,fun a=>⟨fun b=> ?_,fun b=> ?_⟩⟩
 ·rw [if_neg (by omega),if_pos b]
 ·rw [if_neg (by omega),if_neg (by omega)]
theorem Dc (x y:Bytes):af Tryz.prog gl 72 [.str x,.str y] h fun v h'=>v= .int .i64 (jb x y)∧h'=h:=by
 refine af.data (by simp) (af.body Tryz.f72 _ mixed Tryz.func72 rfl rfl (by simp [Tryz.ntmps72]) ?_);have hs:Op.bytesLess x x=false:=by rw [←gD,decide_eq_false_iff_not,(ma x x).2 rfl];omega
 unfold jb;simp;refine ay.pure _ (fun _=>VT x) ?_;simp;refine ay.pure _ (fun _=>VT y) ?_;simp;by_cases e:x=y
 ·subst e;simp [hs]
 ·by_cases q:Op.bytesLess x y=true
  ·simp [e,q]
  ·simp [e,q]
theorem Jk (b:Nat)(l:List Int)(hb:h[b]? =some (.cells 1 (l.map fun n=>[.int .i64 n])))(hl:l.length≤1000):af Tryz.prog gl 70 [.own b 0 l.length] h fun v h'=>v= .int .i64 (dE l)∧h'=h:=by
 rw [←Ie];have:=Rd.own (n:=1) hb (fun e he=>by obtain⟨y,_,rfl⟩:=List.mem_map.1 he;rfl);rw [List.length_map] at this;exact WL _ l this hl
theorem Ex (a b:kg):af Tryz.prog gl 134 [.agg (cz a),.agg (cz b)] h fun v h'=>v= .int .i64 (fK a b)∧h'=h:=by
 refine af.data (by simp) (af.body Tryz.f134 _ mixed Tryz.func134 rfl rfl (by simp [Tryz.ntmps134]) ?_);have hf:fK a b=dE [jb a.dev b.dev,iF a.seq b.seq]:=by
  rw [ji];unfold fK;by_cases e:a.dev=b.dev
  ·rw [if_pos e,if_pos (by rw [e];exact GX _)];split <;> simp_all
  ·rw [if_neg e,if_neg fun c=>e (zP c)]
 rw [hf];simp [cz];refine⟨by decide,?_⟩;refine ay.pure _ (fun _=>Dc _ _) ?_;simp;refine ay.pure _ (fun _=>KJ _ _) ?_;simp;refine ay.pure _ (fun _=>Jk (h.length+2) [jb a.dev b.dev,iF a.seq b.seq] (by simp) (by simp)) ?_;simp
set_option maxHeartbeats 2000000 in
theorem y5 (a b:List kg)(ha:a.length≤maxLen)(hb:b.length≤maxLen):af Tryz.prog gl 133 [.ro (a.map cz),.ro (b.map cz),.fn (.func 134) [] []] h fun v h'=>v= .int .i64 (dI a b)∧h'=h:=by
 refine af.data (by simp) (af.body Tryz.f133 _ mixed Tryz.func133 rfl rfl (by simp [Tryz.ntmps133]) ?_);have hml:maxLen=9223372036854775807:=rfl;simp;refine aW.up mixed a.length (fun i fr H=>fr 0= .ro (a.map cz)∧fr 1= .ro (b.map cz)∧fr 2= .fn (.func 134) [] []∧fr 11= .ro (a.map cz)∧fr 12= .int .i64 a.length∧fr 13= .int .i64 i∧dI a b=dI (a.drop i) (b.drop i)∧i≤b.length∧ ∃g,H=h++g) 0 (by omega)
  ⟨by simp,by simp,by simp,by simp,by simp,by simp,by simp,by omega,[],by simp⟩ ?_
 rintro i fr H hi ⟨e0,e1,e2,e11,e12,e13,hf,hib,g,rfl⟩;rcases zN i a.length with hlt | hge
 ·obtain⟨x,hx,hx'⟩:=aN hlt;have ew:=aB (i:=i) (by omega);have hltI:(i:Int)<a.length:=by omega
  rcases zN i b.length with hlt2 | hge2
  ·obtain⟨y,hy,hy'⟩:=aN hlt2;have hltJ: ¬((b.length:Int)≤i):=by omega
   have hn2: ¬(b.length≤i):=by omega
   rw [yu hx hy] at hf;simp [e0,e1,e2,e11,e12,e13,hlt,hltI,hltJ,hn2,hlt2,hx,hx',hy,hy',cz];refine ay.pure _ (fun _=>by simpa [cz] using Ex x y) ?_;by_cases c:fK x y=0
   ·simp [e0,e1,e2,e11,e12,e13,c,ew];refine⟨i+1,by omega,by omega,by omega,by rw [hf];simp [c],by omega⟩
   ·simp [e0,e1,e2,e11,e12,e13,c];rw [hf];simp [c]
  ·have hgeJ:(b.length:Int)≤i:=by omega
   rw [uw (.inr hge2) hi hib] at hf;simp [e0,e1,e2,e11,e12,e13,hlt,hltI,hgeJ,hge2,hx,hx',cz];rw [hf,iF,if_neg (by omega),if_pos (by omega)]
 ·obtain rfl:i=a.length:=by omega
  rw [uw (.inl (Nat.le_refl _)) hi hib] at hf;simp [e0,e1,e2,e11,e12,e13];rw [hf];unfold iF;refine⟨fun c=>by rw [if_pos (by omega)],fun c=>by rw [if_neg (by omega),if_neg (by omega)]⟩
set_option maxHeartbeats 4000000 in
theorem BQ (a b:aC)(ha:a.Ok)(hb:b.Ok):af Tryz.prog gl 101 [.agg (aj a),.agg (aj b)] h fun x h'=>x= .int .i64 (uu a b)∧h'=h:=by
 refine af.data (.int _ _) (af.body Tryz.f101 _ mixed Tryz.func101 rfl rfl (by simp [Tryz.ntmps101]) ?_);have e1:=ha.src;have e2:=hb.src;have hn:a.srcs.length≤maxLen:=by have:=ha.n;rw [e1] at this;simpa using this
 have hn2:b.srcs.length≤maxLen:=by have:=hb.n;rw [e2] at this;simpa using this
 obtain⟨c1,h1⟩: ∃c,c=iF a.time b.time:=⟨_,rfl⟩;obtain⟨c2,h2⟩: ∃c,c=jb a.point b.point:=⟨_,rfl⟩;obtain⟨c3,h3⟩: ∃c,c=jb a.id b.id:=⟨_,rfl⟩;obtain⟨c4,h4⟩: ∃c,c=jb a.tag b.tag:=⟨_,rfl⟩;obtain⟨c5,h5⟩: ∃c,c=jb a.plate b.plate:=⟨_,rfl⟩;obtain⟨c6,h6⟩: ∃c,c=iF a.cls b.cls:=⟨_,rfl⟩;obtain⟨c7,h7⟩: ∃c,c=iF a.score b.score:=⟨_,rfl⟩;obtain⟨c8,h8⟩: ∃c,c=dI a.srcs b.srcs:=⟨_,rfl⟩;have hcl:uu a b=dE [c1,c2,c3,c4,c5,c6,c7,c8]:=by rw [uu,cmpL,h1,h2,h3,h4,h5,h6,h7,h8]
 rw [hcl];simp;refine⟨by decide,?_⟩;refine ay.pure (.int .i64 c1) (fun _=>by rw [h1];exact KJ a.time b.time) ?_;simp;refine ay.pure (.int .i64 c2) (fun _=>by rw [h2];exact Dc a.point b.point) ?_;simp;refine ay.pure (.int .i64 c3) (fun _=>by rw [h3];exact Dc a.id b.id) ?_;simp;refine ay.pure (.int .i64 c4) (fun _=>by rw [h4];exact Dc a.tag b.tag) ?_;simp;refine ay.pure (.int .i64 c5) (fun _=>by rw [h5];exact Dc a.plate b.plate) ?_;simp;refine ay.pure (.int .i64 c6) (fun _=>by rw [h6];exact KJ a.cls b.cls) ?_;simp;refine ay.pure (.int .i64 c7) (fun _=>by rw [h7];exact KJ a.score b.score) ?_;simp;refine ay.pure (.int .i64 c8) (fun _=>by rw [h8,e1,e2];exact y5 a.srcs b.srcs hn hn2) ?_;simp;refine ay.pure _ (fun _=>Jk (h.length+2) [c1,c2,c3,c4,c5,c6,c7,c8] (by simp) (by simp)) ?_;simp
theorem Ue (l:List kg): ∀e∈l.map cz,∀y∈e,y.Data:=fun e he y hy=>by
 obtain⟨m,_,rfl⟩:=List.mem_map.1 he;simp [cz] at hy;rcases hy with rfl | rfl <;> simp
theorem BV (l:List kg)(hl:l.length≤1000000):af Tryz.prog gl 131 [.ro (l.map cz)] h fun v h'=>v= .ro (l.map cz)∧h'=h:=by
 refine af.fresh (af.body Tryz.f131 _ mixed Tryz.func131 rfl rfl (by simp [Tryz.ntmps131]) ?_);simp [cz];refine⟨⟨by omega,qy.ownD (m:=2) (es:=l.map cz) (by simp [cz]) (by omega) (by simp) (by rw [List.drop_zero,zG (by simp)]) (Ue l)⟩,?_⟩;rintro rfl;exact .nil
set_option maxHeartbeats 2000000 in
theorem Ew (p:aC)(hp:p.Ok)(hn:p.sources.length≤1000):af Tryz.prog gl 99 [.agg (aj p)] h fun v h'=>v= .agg (aj p)∧h'=h:=by
 refine af.fresh (af.body Tryz.f99 _ mixed Tryz.func99 rfl rfl (by simp [Tryz.ntmps99]) ?_);have hc:=fun (H:ak)=>BV (gl:=gl) (h:=H) p.srcs (by have:=hn;rw [hp.src] at this;simp at this;omega);have hd:=hp.dat;have hs:=hp.src;rw [←hs] at hc;simp [aj];refine ay.pure _ (fun _=>hc _) ?_;simp;exact .agg' (.cons (.data _ (by simp)) (.cons (.data _ (by simp)) (.cons (.data _ (by simp)) (.cons (.data _ (by simp)) (.cons (.data _ (by simp)) (.cons (.data _ (by simp)) (.cons (.data _ (by simp)) (.cons (.data _ (.ro _ hd)) .nil))))))))
def O9 (e:List AV):aC:=⟨strOf (e.getD 0 .junk),strOf (e.getD 1 .junk),intOf (e.getD 2 .junk),strOf (e.getD 3 .junk),strOf (e.getD 4 .junk),intOf (e.getD 5 .junk),intOf (e.getD 6 .junk),match e.getD 7 .junk with | .ro l=>l | _=>[]⟩
def VY (x y:List AV):Int:=uu (O9 x) (O9 y)
theorem rD {l:List aC} (hl: ∀p∈l,p.Ok): ∀e∈l.map aj,∀y∈e,y.Data:=fun e he y hy=>by
 obtain⟨p,hp,rfl⟩:=List.mem_map.1 he;have hd:=(hl p hp).dat;simp only [aj,List.mem_cons,List.not_mem_nil,or_false] at hy;rcases hy with rfl | rfl | rfl | rfl | rfl | rfl | rfl | rfl
 all_goals first | exact .ro _ hd | simp
theorem og (l:List aC):(dZ l).length=l.length:=by rw [dZ,bI]
theorem l8 {l:List aC} {p:aC}:p∈dZ l↔p∈l:=by rw [dZ,dW]
set_option maxHeartbeats 4000000 in
theorem yO (l:List aC) {x:AV} (hx:Rs 8 h x (l.map aj))(hok: ∀p∈l,p.Ok∧p.sources.length≤1000)(hn:l.length<20):af Tryz.prog gl 66 [x] h fun v h'=>v= .ro ((dZ l).map aj)∧h'=h:=by
 refine af.fresh' (af.body Tryz.f66 _ mixed Tryz.func66 rfl rfl (by simp [Tryz.ntmps66]) ?_);have fx:=hx.fix;have lx:=hx.len2;have lx2:=(hx.append [.cells 8 []]).len2;simp [fx,lx,lx2];refine⟨by omega,?_⟩;refine aW.up mixed l.length (fun i fr H=>fr 9=x∧fr 10= .int .i64 l.length∧fr 11= .int .i64 i∧(∃g,H=h++g)∧ ∃b,fr 3= .own b 0 i∧h.length≤b∧H[b]? =some (.cells 8 ((l.take i).map aj))) 0 (by omega)
  ⟨by simp,by simp,by simp,⟨_,rfl⟩,h.length,by simp,by omega,by simp⟩ ?_
 rintro i fr H hi ⟨e9,e10,e11,⟨g,rfl⟩,b,e3,hlb,hb⟩;have hb3:=at3 hb;rcases zN i l.length with hlt | hge
 ·obtain⟨p,hp,hp'⟩:=aN hlt;have ew:=aB (i:=i) (by omega);have hltI:(i:Int)<l.length:=by omega
  have ix:=(hx.append g).ix Tryz.prog (i:Int) (by omega) (y:=aj p) (by simp [hp]);obtain⟨q1,q2⟩:=hok p (zF hp);have hL:Ls 8 h.length (h++g) (.own b 0 i) ((l.take i).map aj):=⟨.inr ⟨b,by simp;omega,hlb,hb⟩,Ev _⟩;simp [-ae,-ai,-ah,-AV.solid,e3,e9,e10,e11,hlt,hltI,fx,lx,ix,aj];refine ay.pure _ (fun _=>by simpa [aj] using Ew p q1 q2) ?_;simp [-ae,-ai,-ah,-AV.solid,e3,e9,e10,e11,aj];refine aG (lo:=h.length) (n:=8) (es:=(l.take i).map aj) (ys:=[aj p]) (by simpa [aj] using hL.more _) (by simp) (by simp [bu,aj]) (by simp;omega) ?_;intro s1 H1 hs1 hg1 hn1;have hs1f:=hs1.rs.fix;have hB1:=hg1.base h (by omega) ⟨_,rfl⟩;have hlen:((l.take i).map aj++[aj p]).length=i+1:=by simp;omega
  have htk:(l.take (i+1)).map aj=(l.take i).map aj++[aj p]:=by rw [zM,hp];simp
  obtain⟨b',rfl,hlb',hb'⟩: ∃b',s1= .own b' 0 (i+1)∧h.length≤b'∧H1[b']? =some (.cells 8 ((l.take (i+1)).map aj)):=by
   rcases hs1.1 with⟨_,e⟩ | ⟨k,e,h1,h2⟩
   ·simp at e
   ·exact⟨k,by rw [e,hlen],h1,by rw [htk];exact h2⟩
  simp [-ae,-ai,-ah,-AV.solid,-List.map_take,e3,e9,e10,e11,ew];exact⟨i+1,by omega,by omega,by omega,hB1,b',⟨rfl,rfl⟩,hlb',by rw [←List.map_take];exact hb'⟩
 ·obtain rfl:i=l.length:=by omega
  rw [List.take_length] at hb;have hbl:=aK hb;have hset:(h++g).set b (.cells 8 (l.map aj))=h++g:=by obtain⟨_,hg⟩:=zA.1 hb;rw [←hg];exact List.set_getElem_self ..
  have hs:=xX (gl:=gl) (h:=h++g) b (l.map aj) hbl (Ev _) (by simp;omega) 101 [] VY (by
   intro a ha c hc o;obtain⟨a,hma,rfl⟩:=List.mem_map.1 ha;obtain⟨c,hmc,rfl⟩:=List.mem_map.1 hc;exact BQ a c (hok a hma).1 (hok c hmc).1)
  have hsm:aT (fun x y=>decide (VY x y<0)) (l.map aj)=(dZ l).map aj:=IC (lt:=fun a b=>decide (uu a b<0)) (fun _ _=>rfl) l;rw [hset,hsm,List.length_map] at hs;simp [-ae,-ai,-ah,-AV.solid,e3,e9,e10,e11];refine ay.any hs ?_;rintro v h' ⟨rfl,rfl⟩;simp [-ae,-ai,-ah,-AV.solid,e3,e9,e10,e11];rw [←List.set_append];refine⟨cu ⟨g,rfl⟩ hlb _,?_⟩;have hl1:Ls 8 h.length ((h++g).set b (.cells 8 ((dZ l).map aj))) (.own b 0 l.length) ((dZ l).map aj):=⟨.inr ⟨b,by simp [og],hlb,zI hbl⟩,Ev _⟩;exact hl1.frz (Nat.le_refl _) (rD fun p hp=>(hok p (l8.1 hp)).1)
end Go.Proofs.YtkpioblbeiaefaaGreat
end
