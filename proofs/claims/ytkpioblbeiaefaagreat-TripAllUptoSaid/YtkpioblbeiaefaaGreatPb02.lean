/- Part 2 of the lemmas below the statements of this seat: AbsWp. -/
import Derived.Test.YtkpioblbeiaefaaGreatPb01
import Derived.Laws.MakeOwn
import Derived.Laws.RangeString
import Derived.Maps.RangeRun
set_option linter.unusedSectionVars false
set_option linter.unusedVariables false
set_option linter.unusedSimpArgs false
set_option linter.unnecessarySimpa false
set_option maxRecDepth 100000
section
section
namespace Go.Abs
open Go
section
variable {P : Program} {gl : aR} {J : List eF} {h : ak} {w : World} {O : Nat → Prop} {fr : aP} {N : Nat}
def j6 (P:Program)(gl:aR)(h:ak)(J:List eF)(w:World)(s:Sem Value)(R:AV→ak→Prop):Prop:=
 ∃v w' J' x h',s.run P w= .ok v w'∧dm gl h' J' w'∧aQ J' (Own h' J') w' x v∧jE h J w h' J' w'∧R x h'
def CG (P:Program)(gl:aR)(h:ak)(J:List eF)(w:World)(s:Sem Unit)(R:ak→Prop):Prop:=
 ∃w' J' h',s.run P w= .ok () w'∧dm gl h' J' w'∧jE h J w h' J' w'∧R h'
theorem mq (hh:dm gl h J w)(T:TypeId)(us:Array Value)(es:List (List AV))(n cap:Nat)(hn:0<n)(hcap:es.length≤cap)(hsz:cap*n≤us.size)(hl: ∀(i:Nat) (e:List AV),es[i]? =some e→e.length=n)
  (hr: ∀(i:Nat) (e:List AV) (c:Nat) (x:AV),es[i]? =some e→e[c]? =some x→ ∃v,us[i*n+c]? =some v∧v.oneCell'=true∧aQ J (Own h J) w x v):
  dm gl (h++[.cells n es]) (J++[⟨w.heap.size,0,n,cap⟩]) (w.alloc (.cells us T))∧jE h J w (h++[.cells n es]) (J++[⟨w.heap.size,0,n,cap⟩]) (w.alloc (.cells us T)):=by
 refine hh.alloc _ _ _ rfl fun J' O' hm=>⟨rfl,hn,hcap,hl,us,T,heap_alloc_new w _,by simpa using hsz,fun i e c x hi hx=> ?_⟩;obtain⟨v,h1,h2,h3⟩:=hr i e c x hi hx;exact⟨v,by simpa using h1,h2,hm x v h3⟩
theorem ko (hh:dm gl h J w)(k:eF):(J++[k])[h.length]? =some k:=by
 rw [←hh.len];simp
theorem Qi (hh:dm gl h J w) {t:TypeId} {x:AV} {u:Value} (hx:aQ J (Own h J) w x u)(hs:x.solid=true)(hl:0<(ah x).length) {R:AV→ak→Prop} (hR:R (.ptr h.length 0 0) (h++[.cells (ah x).length [ah x]])):
  j6 P gl h J w (Instr.box t u) R:=by
 obtain⟨hc1,hc2⟩:=pJ hx hs;have hlen:=hc1.1;obtain⟨h1,h2⟩:=mq hh t u.cells [ah x] (ah x).length 1 hl (by simp) (by rw [hlen];simp) (by intro i e hi;cases i <;> simp at hi;simp [hi]) (by
  intro i e c y hi hy
  cases i with
  | zero=>
   simp at hi;subst hi;have hlt:c<u.cells.toList.length:=by rw [←hlen];exact (zA.1 hy).1
   have hu:u.cells.toList[c]? =some (u.cells.toList[c]'hlt):=zB hlt;refine⟨u.cells.toList[c]'hlt,?_,hc2 _ (List.getElem_mem hlt),hc1.2 c _ _ hy hu⟩;rw [Nat.zero_mul,Nat.zero_add,←hu];simp
  | succ i=>simp at hi)
 refine⟨_,_,_,_,_,rfl,h1,?_,h2,hR⟩;have:=aQ.ptr (J:=J++[⟨w.heap.size,0,(ah x).length,1⟩]) (O:=Own (h++[.cells (ah x).length [ah x]]) (J++[⟨w.heap.size,0,(ah x).length,1⟩])) (w:=w.alloc (.cells u.cells t)) h.length 0 0 _ (ko hh _);simpa using this
theorem Kw (hh:dm gl h J w) {t:TypeId} (ht:(ax P t).ok=true)(hz:(ax P t).zok=true)(hl:0<(ax P t).zero.length) {R:AV→ak→Prop} (hR:R (.ptr h.length 0 0) (h++[.cells (ax P t).zero.length [(ax P t).zero]])):
  j6 P gl h J w (Instr.alloc t true (.tuple #[])) R:=by
 obtain⟨z,hz1,hz2,hz3,hz4⟩:=fT ht hz w;have hzr:=kE (J:=J) (O:=Own h J) (w:=w) hz2;rw [←hz3] at hzr;have hlen:=hzr.1;obtain⟨h1,h2⟩:=mq hh t z.cells [(ax P t).zero] (ax P t).zero.length 1 hl (by simp) (by rw [hlen];simp) (by intro i e hi;cases i <;> simp at hi;simp [hi]) (by
  intro i e c y hi hy
  cases i with
  | zero=>
   simp at hi;subst hi;have hlt:c<z.cells.toList.length:=by rw [←hlen];exact (zA.1 hy).1
   have hu:z.cells.toList[c]? =some (z.cells.toList[c]'hlt):=zB hlt;refine⟨z.cells.toList[c]'hlt,?_,hz2 _ (List.getElem_mem hlt),hzr.2 c _ _ hy hu⟩;rw [Nat.zero_mul,Nat.zero_add,←hu];simp
  | succ i=>simp at hi)
 refine⟨.pointer (some ⟨w.heap.size,0,none⟩),w.alloc (.cells z.cells t),_,_,_,?_,h1,?_,h2,hR⟩
 ·simp only [Instr.alloc,Sem.run_bind,hz1,Result.andThen_ok];rfl
 ·have:=aQ.ptr (J:=J++[⟨w.heap.size,0,(ax P t).zero.length,1⟩]) (O:=Own (h++[.cells (ax P t).zero.length [(ax P t).zero]]) (J++[⟨w.heap.size,0,(ax P t).zero.length,1⟩])) (w:=w.alloc (.cells z.cells t)) h.length 0 0 _ (ko hh _);simpa using this
theorem jX (r off:Nat)(T:TypeId): ∀(us:List Value) (i:Nat) (cur:Array Value) (w:World),w.heap[r]? =some (.cells cur T (0,0))→off+i+us.length≤cur.size→(∀v∈us,v.oneCell'=true)→
  ∃(w':World) (new:Array Value),(storeCells ⟨r,off,none⟩ us i).run P w= .ok () w'∧w'.heap[r]? =some (.cells new T (0,0))∧new.size=cur.size∧
   (∀j,new[j]? =if off+i≤j∧j<off+i+us.length then us[j - (off+i)]? else cur[j]?)∧(∀b,b≠r→w'.heap[b]? =w.heap[b]?)∧w'.heap.size=w.heap.size∧w'.os=w.os∧w'.tape=w.tape∧w'.output=w.output
 | [],i,cur,w,hw,_,_=>⟨w,cur,rfl,hw,rfl,fun j=>by rw [if_neg (by simp only [List.length_nil];omega)],fun _ _=>rfl,rfl,rfl,rfl,rfl⟩
 | v::us,i,cur,w,hw,hle,h1=>by
  simp only [List.length_cons] at hle;have hlt:off+i<cur.size:=by omega
  have hcell:w.cell? ⟨r,off+i,none⟩=some cur[off+i]:=by rw [cell_of_heap hw];exact Array.getElem?_eq_getElem hlt
  have hfz:w.frozen? ⟨r,off+i,none⟩=false:=frozen_of_row w r (off+i) cur T hw;have hst:(store ⟨r,off+i,none⟩ v).run P w= .ok () (w.setCell ⟨r,off+i,none⟩ v):=by
   rw [run_store P w _ v _ (h1 v (by simp)),hcell,hfz];rfl
  have hw1:=heap_setCell_same w r (off+i) cur T v hw;obtain⟨w',new,e1,e2,e3,e4,e5,e6,e7,e8,e9⟩:=jX r off T us (i+1) (cur.setIfInBounds (off+i) v) (w.setCell ⟨r,off+i,none⟩ v) hw1 (by simp;omega) (fun u hu=>h1 u (by simp [hu]));refine⟨w',new,?_,e2,by rw [e3];simp,?_,?_,by rw [e6];simp,by rw [e7];rfl,by rw [e8];rfl,by rw [e9];rfl⟩
  ·simp only [storeCells,mM,Sem.run_bind,hst,Result.andThen_ok,e1]
  ·intro j;rw [e4 j];by_cases hj:off+(i+1)≤j∧j<off+(i+1)+us.length
   ·rw [if_pos hj,if_pos (by simp;omega),show j - (off+i)=(j - (off+(i+1)))+1 by omega,List.getElem?_cons_succ]
   ·rw [if_neg hj];by_cases hj2:off+i=j
    ·subst hj2;rw [if_pos (by simp),Array.getElem?_setIfInBounds_self_of_lt hlt];simp
    ·rw [if_neg (by simp;omega),Array.getElem?_setIfInBounds_ne hj2]
  ·intro b hb;rw [e5 b hb,heap_setCell_other w _ b v hb]
def hput (h:ak)(b i c:Nat)(cs:List AV):ak:=h.set b (.cells (hsz h b) ((hcells h b).set i (splice ((hcells h b).getD i []) c cs)))
theorem Xa {i i' n c c':Nat} (hc:c<n)(hc':c'<n)(h:i≠i'):i*n+c≠i'*n+c':=by
 intro e;rcases Nat.lt_or_gt_of_ne h with hlt | hlt
 ·have:(i+1)*n≤i'*n:=Nat.mul_le_mul_right n hlt;rw [Nat.add_mul] at this;omega
 ·have:(i'+1)*n≤i*n:=Nat.mul_le_mul_right n hlt;rw [Nat.add_mul] at this;omega
theorem Mv (hh:dm gl h J w) {t:TypeId} {b i c:Nat} {x:AV} {p u:Value} (ht:(ax P t).ok=true)(hp:aQ J (Own h J) w (.ptr b i c) p)(hx:aQ J (Own h J) w x u)(hs:x.solid=true)
  (hl:(ah x).length=(ax P t).cells) (hi:i<(hcells h b).length) (hc:c+(ax P t).cells≤((hcells h b).getD i []).length) {R:ak→Prop} (hR:R (hput h b i c (ah x))):
  CG P gl h J w (Instr.storeAt t p u) R:=by
 obtain⟨hc1,hc2⟩:=pJ hx hs;have hlen:=hc1.1;have hg:(hcells h b)[i]? =some ((hcells h b).getD i []):=by simp [List.getD,zB hi]
 obtain⟨k,hk,rfl,hkl,_⟩:=Dr hh hp hg;have hp0:0<hsz h b:=by
  unfold hcells at hi;unfold hsz;split at hi
  ·rename_i n' es he';obtain⟨hkn,hn,_⟩:=hh.obj b k _ hk he';first | omega | (simp only [he'];omega)
  ·simp at hi
 obtain⟨es,he,hsz0,hes⟩:=K6 hh hk hp0;rw [hes] at hi hc hg hkl;obtain⟨_,hn,hcap,hlens,vs,T,hheap,hsz,hcell⟩:=hh.obj b k _ hk he;have hle:i*k.n+k.n≤k.cap*k.n:=by
  have h1:(i+1)*k.n≤k.cap*k.n:=Nat.mul_le_mul_right k.n (by omega);rwa [Nat.add_mul,Nat.one_mul] at h1
 obtain⟨w',new,e1,e2,e3,e4,e5,e6,e7,e8,e9⟩:=jX (P:=P) k.r (k.base+(i*k.n+c)) T u.cells.toList 0 vs w hheap (by rw [←hlen];omega) hc2;have hput_eq:hput h b i c (ah x)=h.set b (.cells k.n (es.set i (splice (es.getD i []) c (ah x)))):=by simp [hput,hes,hsz0]
 have hsl:c+(ah x).length≤(es.getD i []).length:=by omega
 obtain⟨r1,r2⟩:=hh.set (o':= .cells k.n es) (k:=k) (w':=w') (.cells k.n (es.set i (splice (es.getD i []) c (ah x)))) hk he (by simp) e6 e5 e7 e8 e9 (by
  intro O' hm;refine⟨rfl,hn,by simpa using hcap,?_,new,T,e2,by omega,?_⟩
  ·intro i' e hi';by_cases hii:i=i'
   ·subst hii;rw [zI hi] at hi';injection hi' with hi';rw [←hi',fM _ _ _ hsl];exact hkl
   ·rw [zJ hii] at hi';exact hlens i' e hi'
  ·intro i' e c' y hi' hy;by_cases hii:i=i'
   ·subst hii;rw [zI hi] at hi';injection hi' with hi';subst hi';rw [getElem?_splice _ _ _ hsl] at hy;split at hy
    ·rename_i hcc;have hlt:c' - c<u.cells.toList.length:=by rw [←hlen];omega
     have hu:u.cells.toList[c' - c]? =some (u.cells.toList[c' - c]'hlt):=zB hlt;refine⟨u.cells.toList[c' - c]'hlt,?_,hc2 _ (List.getElem_mem hlt),hm _ _ (hc1.2 _ _ _ hy hu)⟩;rw [e4,if_pos (by rw [←hlen];omega),←hu];congr 1
     omega
    ·rename_i hcc;have hlt':c'<k.n:=by
      have h1:=(zA.1 hy).1;omega
     obtain⟨v,p1,p2,p3⟩:=hcell i _ c' y hg hy;refine⟨v,?_,p2,hm _ _ p3⟩;rw [e4,if_neg (by rw [←hlen];omega)];exact p1
   ·rw [zJ hii] at hi';obtain⟨v,p1,p2,p3⟩:=hcell i' e c' y hi' hy;refine⟨v,?_,p2,hm _ _ p3⟩;have hlt':c'<k.n:=by
     rw [←hlens i' e hi'];exact (zA.1 hy).1
    rw [e4,if_neg ?_]
    ·exact p1
    ·intro hcc;rw [←hlen] at hcc;have h2:c+(ah x).length≤k.n:=by omega
     have:=Xa (i:=i) (i':=i') (n:=k.n) (c:=k.base+(i'*k.n+c') - (k.base+(i*k.n))) (c':=c') (by omega) hlt' hii;omega)
 refine⟨w',J,_,?_,by rw [hput_eq];exact r1,by rw [hput_eq];exact r2,hR⟩;have hsc:(storeCells ((⟨k.r,k.base+i*k.n,none⟩:Addr).add c) u.cells.toList).run P w= .ok () w':=by
  rw [mM,show k.base+i*k.n+c=k.base+(i*k.n+c) by omega];exact e1
 have hss:u.cells.size=(ax P t).cells:=by rw [←hl,hlen];simp
 simp only [Instr.storeAt,Instr.sureAddr,Sem.run_bind,Sem.run_pure,Result.andThen_ok,storeVar,cK ht,hss];simp only [ne_eq,not_true_eq_false,if_false];exact hsc
end
end Go.Abs
end
section
namespace Go.Abs
open Go
section
variable {P : Program} {gl : aR} {J : List eF} {h : ak} {w : World} {O : Nat → Prop} {fr : aP} {N : Nat}
theorem vH (hh:dm gl h J w)(es:List (List AV))(n cap:Nat)(w':World)(o:cZ)(hcap:es.length≤cap):aQ (J++[⟨w.heap.size,0,n,cap⟩]) (Own (h++[o]) (J++[⟨w.heap.size,0,n,cap⟩])) w' (.own h.length 0 es.length) (.slice (some ⟨w.heap.size,0,none⟩) es.length cap):=
 .own _ _ _ ⟨w.heap.size,0,n,cap⟩ _ _ (ko hh _) (fun _=>by simp) hcap (by simp)
def vS (n:Nat):Nat→List (Nat×AV)→Prop
 | _,[]=>True
 | s,(i,x)::ps=>i=s∧x.solid=true∧(ah x).length=n∧vS n (s+1) ps
theorem AO {n:Nat}: ∀(ps:List (Nat×AV)) (s:Nat) (cs:List AV),vS n s ps→(s+ps.length)*n≤cs.length→ ∀i c,c<n→i<s+ps.length→
  (nD n ps cs)[i*n+c]? =if i<s then cs[i*n+c]? else ((ps[i - s]?).map fun p=>ah p.2).bind (·[c]?)
 | [],s,cs,_,_,i,c,hc,hi=>by simp only [List.length_nil,Nat.add_zero] at hi;rw [if_pos hi];rfl
 | (i0,x)::ps,s,cs,hok,hl,i,c,hc,hi=>by
  obtain⟨rfl,hs,hlen,hok'⟩:=hok;simp only [List.length_cons] at hl hi;have hfit:i0*n+(ah x).length≤cs.length:=by
   rw [hlen];have:(i0+1)*n≤(i0+(ps.length+1))*n:=Nat.mul_le_mul_right n (by omega);rw [Nat.add_mul,Nat.one_mul] at this;omega
  have hl':(i0+1+ps.length)*n≤(splice cs (i0*n) (ah x)).length:=by
   rw [fM _ _ _ hfit,show i0+1+ps.length=i0+(ps.length+1) by omega];exact hl
  have ih:=AO ps (i0+1) (splice cs (i0*n) (ah x)) hok' hl' i c hc (by omega);simp only [nD];rw [ih];by_cases h1:i<i0
  ·rw [if_pos (by omega),if_pos h1,getElem?_splice _ _ _ hfit,if_neg ?_];have:(i+1)*n≤i0*n:=Nat.mul_le_mul_right n h1;rw [Nat.add_mul,Nat.one_mul] at this;omega
  ·by_cases h2:i=i0
   ·subst h2;rw [if_pos (by omega),if_neg (by omega),getElem?_splice _ _ _ hfit,if_pos (by omega)];simp
   ·rw [if_neg (by omega),if_neg h1,show i - i0=(i - (i0+1))+1 by omega,List.getElem?_cons_succ]
theorem NY {n:Nat}: ∀(ps:List (Nat×AV)) (s:Nat) (total:Nat),vS n s ps→(s+ps.length)*n≤total→qF n total ps
 | [],_,_,_,_=>trivial
 | (i,x)::ps,s,total,hok,hl=>by
  obtain⟨rfl,hs,hlen,hok'⟩:=hok;simp only [List.length_cons] at hl;have:(i+1)*n≤(i+(ps.length+1))*n:=Nat.mul_le_mul_right n (by omega);rw [Nat.add_mul,Nat.one_mul] at this;exact⟨hs,hlen,by omega,NY ps (i+1) total hok' (by rw [show i+1+ps.length=i+(ps.length+1) by omega];exact hl)⟩
theorem Af {n:Nat}: ∀(ps:List (Nat×AV)) (s:Nat),vS n s ps→ ∀(i:Nat) (e:List AV),(ps.map fun p=>ah p.2)[i]? =some e→e.length=n
 | [],_,_,i,e,h=>by simp at h
 | (j,x)::ps,s,hok,i,e,h=>by
  obtain⟨rfl,hs,hlen,hok'⟩:=hok
  cases i with
  | zero=>simp at h;rw [←h];exact hlen
  | succ i=>exact Af ps (j+1) hok' i e (by simpa using h)
def nI (P:Program)(t:TypeId)(len:Nat)(ps:List (Nat×AV)):Prop:=match (ax P t).kind with
 | .slice e=>mZ (ax P e)∧0<(ax P e).cells∧ps.length=len∧len*(ax P e).cells≤16777216∧vS (ax P e).cells 0 ps
 | _=>False
theorem zw (hh:dm gl h J w) {t:TypeId} {len:Nat} {ps:List (Nat×AV)} {qs:Array (Nat×Value)} (hps:GD J (Own h J) w ps qs.toList)(hok:nI P t len ps) {R:AV→ak→Prop}
  (hR:R (.own h.length 0 len) (h++[.cells (dL P t) (ps.map fun p=>ah p.2)])):j6 P gl h J w (Instr.buildSlice t len qs) R:=by
 unfold nI at hok;split at hok
 ·rename_i e hk;obtain⟨hz,hpos,hlen,hsz,hpo⟩:=hok;have hec:dL P t=(ax P e).cells:=by simp [dL,hk]
  rw [hec] at hR;obtain⟨hu,_⟩:=dF hk;obtain⟨heok,hezok,hzl⟩:=hz;obtain⟨z,hz1,hz2,hz3,hz4⟩:=fT heok hezok w;have hzlen:z.cells.size=(ax P e).zero.length:=by rw [hz3];simp
  have hzpos:0<z.cells.size:=by
   rw [hzlen,hzl];exact hpos
  have hzero: ∀j,(z.cells[j % z.cells.size]!).oneCell'=true∧aQ J (Own h J) w (yM (z.cells[j % z.cells.size]!)) (z.cells[j % z.cells.size]!):=by
   intro j;have hlt:j % z.cells.size<z.cells.size:=Nat.mod_lt _ hzpos;have hm:(z.cells[j % z.cells.size]!)∈z.cells.toList:=by
    rw [getElem!_pos z.cells (j % z.cells.size) hlt];exact Array.getElem_mem_toList hlt
   exact⟨hz2 _ hm,AJ (hz2 _ hm)⟩
  let zs:Array Value:=(Array.range (len*(ax P e).cells)).map (z.cells[· % z.cells.size]!)
  have hzs:bX J (Own h J) w (zs.toList.map yM) zs.toList∧ ∀v∈zs.toList,v.oneCell'=true:=by
   have h1: ∀v∈zs.toList,v.oneCell'=true:=by
    intro v hv;simp only [zs,Array.toList_map,List.mem_map] at hv;obtain⟨j,_,rfl⟩:=hv;exact (hzero j).1
   exact⟨kE h1,h1⟩
  have hzslen:(zs.toList.map yM).length=len*(ax P e).cells:=by simp [zs]
  obtain⟨vs',e1,e2,e3⟩:=uE (place:=fun i=>some (i*(ax P e).cells,(ax P e).cells)) (n:=(ax P e).cells) (cells:=len*(ax P e).cells) (fun i=>rfl) ps qs.toList _ zs.toList hps hzs.1 hzs.2 hzslen
   (NY ps 0 _ hpo (by rw [Nat.zero_add,hlen];exact Nat.le_refl _))
  have hvl:vs'.length=len*(ax P e).cells:=by
   rw [←e2.1];have: ∀(ps:List (Nat×AV)) (cs:List AV),qF (ax P e).cells cs.length ps→(nD (ax P e).cells ps cs).length=cs.length:=by
    intro ps
    induction ps with
    | nil=>intro cs _;rfl
    | cons p ps ih=>
     intro cs hb;obtain⟨i,x⟩:=p;obtain⟨b1,b2,b3,b4⟩:=hb;simp only [nD];have hs:=fM cs (i*(ax P e).cells) (ah x) (by omega);rw [ih _ (by rw [hs];exact b4),hs]
   rw [this ps _ (by rw [hzslen];exact NY ps 0 _ hpo (by rw [Nat.zero_add,hlen];exact Nat.le_refl _)),hzslen]
  have hes:(ps.map fun p=>ah p.2).length=len:=by simp [hlen]
  obtain⟨r1,r2⟩:=mq hh e vs'.toArray (ps.map fun p=>ah p.2) (ax P e).cells len hpos (by omega) (by simp [hvl]) (Af ps 0 hpo) (by
   intro i ee c x hi hx;have hcl:c<(ax P e).cells:=by
    rw [←Af ps 0 hpo i ee hi];exact (zA.1 hx).1
   have hil:i<len:=by
    rw [←hes];exact (zA.1 hi).1
   have hg:=AO ps 0 (zs.toList.map yM) hpo (by rw [hzslen,Nat.zero_add,hlen];exact Nat.le_refl _) i c hcl (by omega);rw [if_neg (by omega),Nat.sub_zero] at hg;have hg2:(nD (ax P e).cells ps (zs.toList.map yM))[i*(ax P e).cells+c]? =some x:=by
    rw [hg];rw [List.getElem?_map] at hi;rw [hi];exact hx
   have hlt:i*(ax P e).cells+c<vs'.length:=by rw [←e2.1];exact (zA.1 hg2).1
   have hv:vs'[i*(ax P e).cells+c]? =some (vs'[i*(ax P e).cells+c]'hlt):=zB hlt;exact⟨_,by rw [List.getElem?_toArray];exact hv,e3 _ (List.getElem_mem hlt),e2.2 _ _ _ hg2 hv⟩)
  refine⟨.slice (some ⟨w.heap.size,0,none⟩) len len,_,_,_,_,?_,r1,?_,r2,hR⟩
  ·have hif: ¬(len*(ax P e).cells>2^24):=by omega
   simp only [Instr.buildSlice,Sem.run_bind,run_underlying hu,Result.andThen_ok,cK heok,Sem.run_ite,if_neg hif,Sem.run_pure];have hzz:(if len*(ax P e).cells=0 then (pure #[]:Sem (Array Value)) else do pure (←zeroValue e).cells).run P w= .ok (if len*(ax P e).cells=0 then #[] else z.cells) w:=by
    split <;> simp [hz1]
   simp only [Sem.run_ite,Sem.run_pure,Sem.run_bind,hz1,Result.andThen_ok];by_cases h0:len*(ax P e).cells=0
   ·have hl0:len=0:=by
     rcases Nat.mul_eq_zero.1 h0 with h | h
     ·exact h
     ·omega
    subst hl0;have hp0:ps=[]:=List.eq_nil_of_length_eq_zero hlen;subst hp0
    cases hq:qs.toList with
    | cons q l=>rw [hq] at hps;exact hps.elim
    | nil=>
     have hv0:vs'=[]:=List.eq_nil_of_length_eq_zero (by rw [hvl];omega);subst hv0;simp only [if_pos h0,Result.andThen_ok];simp only [h0,Array.range_zero',Instr.fill,List.map_toArray,Array.map_empty];rfl
   ·simp only [if_neg h0,Result.andThen_ok];have e1':Instr.fill (fun i=>some (i*(ax P e).cells,(ax P e).cells)) ((Array.range (len*(ax P e).cells)).map (z.cells[· % z.cells.size]!)) qs.toList=some vs'.toArray:=by
     have:zs.toList.toArray=zs:=by simp
     rw [this] at e1;exact e1
    rw [e1'];rfl
  ·have:=vH hh (ps.map fun p=>ah p.2) (ax P e).cells len (w.alloc (.cells vs'.toArray e)) (.cells (ax P e).cells (ps.map fun p=>ah p.2)) (by omega);rw [hes] at this;exact this
 ·exact hok.elim
end
end Go.Abs
end
section
namespace Go.Abs
open Go
section
variable {P : Program} {gl : aR} {J : List eF} {h : ak} {w : World} {O : Nat → Prop} {fr : aP} {N : Nat}
def slOk (h:ak):AV→Prop
 | .nil | .e0 | .ro _ | .str _=>True
 | .own b off len=>off+len≤(hcells h b).length
 | _=>False
theorem V3 {a:Addr} {es:List (List AV)} {size:Nat} (hsz:0<size)(hl: ∀y∈es,y.length=size)
  (hc: ∀(i:Nat) (e:List AV) (c:Nat) (y:AV),es[i]? =some e→e[c]? =some y→ ∃v,w.cell? (a.add (i*size+c))=some v∧v.oneCell'=true∧aQ J O w y v):
  ∃us:List Value,(loadCells a (es.length*size)).run P w= .ok us.toArray w∧us.length=es.length*size∧(∀v∈us,v.oneCell'=true)∧
   ∀(i:Nat) (e:List AV) (c:Nat) (y:AV),es[i]? =some e→e[c]? =some y→ ∃v,us[i*size+c]? =some v∧aQ J O w y v:=by
 let f:Nat→Value:=fun j=>(w.cell? (a.add j)).getD undef
 have hf: ∀j,j<es.length*size→ ∃v,w.cell? (a.add j)=some v∧v.oneCell'=true:=by
  intro j hj;have h1:j / size<es.length:=(Nat.div_lt_iff_lt_mul hsz).2 hj;have h2:j % size<size:=Nat.mod_lt _ hsz;have hi:es[j / size]? =some es[j / size]:=zB h1;have hlen:=hl _ (List.getElem_mem h1);have hy:es[j / size][j % size]? =some (es[j / size][j % size]'(by omega)):=zB (by omega);obtain⟨v,p1,p2,p3⟩:=hc _ _ _ _ hi hy;refine⟨v,?_,p2⟩;rw [←p1,Nat.mul_comm (j / size) size,Nat.div_add_mod]
 refine⟨(List.range (es.length*size)).map f,?_,by simp,?_,?_⟩
 ·rw [run_loadCells w a _ f (fun j hj=>by obtain⟨v,p1,_⟩:=hf j hj;simp [f,p1])]
 ·intro v hv;obtain⟨j,hj,rfl⟩:=List.mem_map.1 hv;obtain⟨v,p1,p2⟩:=hf j (List.mem_range.1 hj);simp [f,p1,p2]
 ·intro i e c y hi hy;obtain⟨v,p1,p2,p3⟩:=hc i e c y hi hy;have hil:i<es.length:=(zA.1 hi).1;have hcl:c<size:=by
   rw [←hl e (zF hi)];exact (zA.1 hy).1
  have hlt:i*size+c<es.length*size:=by
   have:(i+1)*size≤es.length*size:=Nat.mul_le_mul_right size hil;rw [Nat.add_mul,Nat.one_mul] at this;omega
  refine⟨v,?_,p3⟩;simp [f,hlt,p1]
theorem kI (hh:dm gl h J w) {x:AV} {u:Value} {size:Nat} (hsz:0<size)(hx:aQ J (Own h J) w x u)(hk:slOk h x)(hl: ∀y∈aelems h x,y.length=size):
  ∃us:List Value,(Builtin.lenOf u).run P w= .ok (aelems h x).length w∧(Builtin.firstCells size (aelems h x).length u).run P w= .ok us.toArray w∧us.length=(aelems h x).length*size∧(∀v∈us,v.oneCell'=true)∧
   ∀(i:Nat) (e:List AV) (c:Nat) (y:AV),(aelems h x)[i]? =some e→e[c]? =some y→ ∃v,us[i*size+c]? =some v∧aQ J (Own h J) w y v:=by
 unfold slOk at hk;split at hk
 ·cases hx
  exact⟨[],rfl,rfl,by simp [aelems],by simp,by simp [aelems]⟩
 ·cases hx with
  | e0 a=>
   refine⟨[],rfl,?_,by simp [aelems],by simp,by simp [aelems]⟩
   cases a with
   | none=>rfl
   | some a=>simp [Builtin.firstCells,aelems,loadCells,loadCellsFrom]
 ·rename_i es;simp only [aelems] at hl ⊢
  cases hx with
  | roNil=>exact⟨[],rfl,rfl,by simp,by simp,by simp⟩
  | ro _ a n cap f hcap hn hO hl0 hc h1 hr=>
   by_cases hes:es=[]
   ·subst hes;refine⟨[],rfl,?_,by simp,by simp,by simp⟩;simp [Builtin.firstCells,loadCells,loadCellsFrom]
   ·have hns:n=size:=by
     obtain⟨y,ys,rfl⟩:=List.exists_cons_of_ne_nil hes;rw [←hl y (by simp),hl0 0 y rfl]
    subst hns;obtain⟨us,p1,p2,p3,p4⟩:=V3 (P:=P) (J:=J) (O:=Own h J) (w:=w) (a:=a) hn hl (fun i e c y hi hy=>⟨f i c,hc i e c y hi hy,h1 i e c y hi hy,hr i e c y hi hy⟩);exact⟨us,rfl,by simp only [Builtin.firstCells];exact p1,p2,p3,p4⟩
 ·rename_i s;simp only [aelems] at hl ⊢;cases hx
  have hs1:size=1∨s=[]:=by
   cases s with
   | nil=>exact .inr rfl
   | cons c s=>left;have:=hl [.int .u8 (c.toNat:Int)] (by simp);simpa using this.symm
  refine⟨s.map fun c=>Value.int .u8 (c.toNat:Int),?_,?_,?_,?_,?_⟩
  ·simp [Builtin.lenOf,ByteArray.size]
  ·simp only [Builtin.firstCells,Sem.run_pure,List.length_map];congr 1
   have:(⟨s.toArray⟩:ByteArray).extract 0 s.length=⟨s.toArray⟩:=by
    apply ByteArray.ext;simp [ByteArray.data_extract]
   rw [this];simp
  ·rcases hs1 with rfl | rfl <;> simp
  ·intro v hv;obtain⟨c,_,rfl⟩:=List.mem_map.1 hv;rfl
  ·intro i e c y hi hy;simp only [List.getElem?_map,Option.map_eq_some_iff] at hi;obtain⟨b,hb,rfl⟩:=hi
   cases c with
   | succ c=>simp at hy
   | zero=>
    simp at hy;subst hy;rcases hs1 with rfl | rfl
    ·exact⟨_,by simp [hb],.int _ _⟩
    ·simp at hb
 ·rename_i b off len;simp only [aelems] at hl ⊢;have hlen:(((hcells h b).drop off).take len).length=len:=by simp;omega
  cases hx with
  | own _ _ _ k a cap hb ha hle hcap=>
   by_cases hl0:len=0
   ·subst hl0;refine⟨[],by simp [Builtin.lenOf],?_,by simp,by simp,by simp⟩;simp [Builtin.firstCells,loadCells,loadCellsFrom]
   ·have ha':=ha (by omega);have h0:0<(hcells h b).length:=by omega
    obtain⟨n0,es,he,hes⟩: ∃n0 es,h[b]? =some (.cells n0 es)∧hcells h b=es:=by
     unfold hcells at h0 ⊢;split at h0
     ·rename_i n0 es he;exact⟨n0,es,he,by simp [he]⟩
     ·simp at h0
    rw [hes] at hl hlen h0 hk ⊢;obtain⟨_,hn,hcap',hlens,vs,T,hheap,hvsz,hcell⟩:=hh.obj b k _ hb he;have sub: ∀(i:Nat) (e:List AV),((es.drop off).take len)[i]? =some e→es[off+i]? =some e:=by
     intro i e hi;rw [List.getElem?_take] at hi;split at hi
     ·rwa [List.getElem?_drop] at hi
     ·cases hi
    have hns:k.n=size:=by
     have hg:((es.drop off).take len)[0]? =some (es[off]'(by omega)):=by
      rw [List.getElem?_take_of_lt (by omega),List.getElem?_drop,Nat.add_zero];exact zB (by omega)
     rw [←hl _ (zF hg),hlens off _ (sub 0 _ hg)]
    obtain⟨us,p1,p2,p3,p4⟩:=V3 (P:=P) (J:=J) (O:=Own h J) (w:=w) (a:=a) (es:=(es.drop off).take len) hsz hl (fun i e c y hi hy=>by
     obtain⟨v,q1,q2,q3⟩:=hcell (off+i) e c y (sub i e hi) hy;refine⟨v,?_,q2,q3⟩;rw [ha',mM,cell_of_heap hheap,←q1,hns,Nat.add_mul];congr 1
     omega)
    refine⟨us,by simp [Builtin.lenOf,hlen],?_,p2,p3,p4⟩;simp only [Builtin.firstCells];exact p1
 ·exact hk.elim
def ae (P:Program)(h:ak)(ts:List TypeId)(s x:AV):Prop:=match ts with
 | [t,u]=>(match (ax P u).kind with | .int _=>False | _=>True)∧(ax P u).ok=true∧match (ax P t).kind with
  | .slice e=>mZ (ax P e)∧0<(ax P e).cells∧(match s with | .own b _ _=>hsz h b=(ax P e).cells | _=>True)∧slOk h s∧slOk h x∧(∀y∈aelems h s,y.length=(ax P e).cells)∧(∀y∈aelems h x,y.length=(ax P e).cells)∧
   ((aelems h s).length+(aelems h x).length)*(ax P e).bytes≤140737488355328∧(aelems h s).length+(aelems h x).length≤140737488355328
  | _=>False
 | _=>False
def ai (n:Nat)(h:ak)(s x:AV)(k:AV→ak→Prop):Prop:=match s with
 | .nil=>(aelems h x=[]→k .nil h)∧(aelems h x≠[]→k (.own h.length 0 (aelems h x).length) (h++[.cells n (aelems h x)]))
 | .e0=>(aelems h x=[]→k .e0 h)∧(aelems h x≠[]→k (.own h.length 0 (aelems h x).length) (h++[.cells n (aelems h x)]))
 | .own b _ _=>k (.own h.length 0 ((aelems h s).length+(aelems h x).length)) (h.set b .dead++[.cells n (aelems h s++aelems h x)])
 | _=>False
theorem M6 {es ys:List (List AV)} {us vs zs:List Value} {n:Nat} (hu:us.length=es.length*n)(h1: ∀v∈us,v.oneCell'=true)(h2: ∀v∈vs,v.oneCell'=true)(hes: ∀y∈es,y.length=n)
  (he: ∀(i:Nat) (e:List AV) (c:Nat) (y:AV),es[i]? =some e→e[c]? =some y→ ∃v,us[i*n+c]? =some v∧aQ J O w y v)
  (hy: ∀(i:Nat) (e:List AV) (c:Nat) (y:AV),ys[i]? =some e→e[c]? =some y→ ∃v,vs[i*n+c]? =some v∧aQ J O w y v):
  ∀(i:Nat) (e:List AV) (c:Nat) (y:AV),(es++ys)[i]? =some e→e[c]? =some y→ ∃v,(us++(vs++zs))[i*n+c]? =some v∧v.oneCell'=true∧aQ J O w y v:=by
 intro i e c y hi hx;rcases zN i es.length with h | h
 ·rw [zC h] at hi;obtain⟨v,p1,p2⟩:=he i e c y hi hx;exact⟨v,by rw [zC (zA.1 p1).1];exact p1,h1 _ (zF p1),p2⟩
 ·rw [zD h] at hi;obtain⟨v,p1,p2⟩:=hy _ e c y hi hx;refine⟨v,?_,h2 _ (zF p1),p2⟩;have e1:i*n+c=us.length+((i - es.length)*n+c):=by
   rw [hu];have:i*n=es.length*n+(i - es.length)*n:=by rw [←Nat.add_mul];congr 1;omega
   omega
  rw [e1,zD (by omega),Nat.add_sub_cancel_left,zC (zA.1 p1).1];exact p1
theorem DV (hh:dm gl h J w) {e:TypeId} (hz:mZ (ax P e))(hpos:0<(ax P e).cells) {s x:AV} {us ux:Value} {h1:ak} (hh1:dm gl h1 J w.drew)(ev1:jE h J w h1 J w.drew)
  (hs:aQ J (Own h J) w s us) (hx:aQ J (Own h J) w x ux) (hks:slOk h s) (hkx:slOk h x) (hls: ∀y∈aelems h s,y.length=(ax P e).cells) (hlx: ∀y∈aelems h x,y.length=(ax P e).cells)
  (cap:Nat) (hcap:(aelems h s).length+(aelems h x).length≤cap):
  ∃(olds news:Array Value) (z:Value),(Builtin.firstCells (ax P e).cells (aelems h s).length us).run P w.drew= .ok olds w.drew∧(Builtin.firstCells (ax P e).cells (aelems h x).length ux).run P w.drew= .ok news w.drew∧(zeroValue e).run P w.drew= .ok z w.drew∧
   dm gl (h1++[.cells (ax P e).cells (aelems h s++aelems h x)]) (J++[⟨w.heap.size,0,(ax P e).cells,cap⟩]) (w.drew.alloc (.cells (olds++news++Builtin.zeroCells z.cells (cap - ((aelems h s).length+(aelems h x).length))) e))∧
   jE h J w (h1++[.cells (ax P e).cells (aelems h s++aelems h x)]) (J++[⟨w.heap.size,0,(ax P e).cells,cap⟩]) (w.drew.alloc (.cells (olds++news++Builtin.zeroCells z.cells (cap - ((aelems h s).length+(aelems h x).length))) e)):=by
 obtain⟨hd,evd⟩:=hh.drew;obtain⟨os,_,o2,o3,o4,o5⟩:=kI (P:=P) hd hpos (hs.evo evd) hks hls;obtain⟨ns,_,n2,n3,n4,n5⟩:=kI (P:=P) hd hpos (hx.evo evd) hkx hlx;obtain⟨heok,hezok,hzl⟩:=hz;obtain⟨z,hz1,hz2,hz3,hz4⟩:=fT heok hezok w.drew;have hcz:z.cells.size=(ax P e).cells:=by
  have e1:z.cells.size=(ax P e).zero.length:=by rw [hz3];simp
  rw [e1,hzl]
 have hlen:((aelems h s++aelems h x)).length=(aelems h s).length+(aelems h x).length:=by simp
 have hlenA: ∀(i:Nat) (ee:List AV),(aelems h s++aelems h x)[i]? =some ee→ee.length=(ax P e).cells:=by
  intro i ee hi;rcases List.mem_append.1 (zF hi) with h | h
  ·exact hls _ h
  ·exact hlx _ h
 have hcells:os.toArray++ns.toArray++Builtin.zeroCells z.cells (cap - ((aelems h s).length+(aelems h x).length))=(os++(ns++(Builtin.zeroCells z.cells (cap - ((aelems h s).length+(aelems h x).length))).toList)).toArray:=by
  apply Array.ext';simp
 have hsize:cap*(ax P e).cells≤(os.toArray++ns.toArray++Builtin.zeroCells z.cells (cap - ((aelems h s).length+(aelems h x).length))).size:=by
  simp only [Array.size_append,List.size_toArray,size_zeroCells,hcz,o3,n3];rw [←Nat.add_mul,←Nat.add_mul];exact Nat.mul_le_mul_right _ (by omega)
 have hvm: ∀y v,aQ J (Own h J) w.drew y v→aQ J (Own h1 J) w.drew y v:=by
  intro y v hv;exact aQ.mono (J:=J) (J':=J) (O:=Own h J) (O':=Own h1 J) (w:=w.drew) (w':=w.drew) ⟨[],by simp⟩ (Nat.le_refl _) (fun r hr hn=>⟨rfl,(ev1.keep r hr hn).2⟩) hv
 obtain⟨r1,r2⟩:=mq hh1 e (os.toArray++ns.toArray++Builtin.zeroCells z.cells (cap - ((aelems h s).length+(aelems h x).length))) (aelems h s++aelems h x) (ax P e).cells cap hpos (by omega) hsize hlenA (by
  intro i ee c y hi hy;obtain⟨v,p1,p2,p3⟩:=M6 (zs:=(Builtin.zeroCells z.cells (cap - ((aelems h s).length+(aelems h x).length))).toList) o3 o4 n4 hls o5 n5 i ee c y hi hy;exact⟨v,by rw [hcells,List.getElem?_toArray];exact p1,p2,hvm _ _ p3⟩)
 exact⟨os.toArray,ns.toArray,z,o2,n2,hz1,r1,ev1.trans r2⟩
end
end Go.Abs
end
section
namespace Go.Abs
open Go
section
variable {P : Program} {gl : aR} {J : List eF} {h : ak} {w : World} {O : Nat → Prop} {fr : aP} {N : Nat}
theorem wV {t u e:TypeId} {d:TypeDesc} {ty:TypeId} (ht:P.underlying t=some (.slice e))(hu:P.underlying u=some d)(hd: ∀k,d≠ .int k) {size:Nat} (hsz:(sizeOf e).run P w= .ok size w)
  {base:Option Addr} {sLen sCap n:Nat} {xv:Value} {news:Array Value} {w':World} (hn:(Builtin.lenOf xv).run P w= .ok n w) (hf:(Builtin.firstCells size n xv).run P w= .ok news w) (hroom:sLen+n≤sCap)
  (hst:(match base with | some a=>storeCells (a.add (sLen*size)) news.toList | none=>(pure ():Sem Unit)).run P w= .ok () w'):
  (Builtin.append_ #[t,u] ty #[.slice base sLen sCap,xv]).run P w= .ok (.slice base (sLen+n) sCap) w':=by
 have hint:(match d with | .int _=>true | _=>false)=false:=by cases d <;> first | rfl | exact absurd rfl (hd _)
 cases base with
 | none=>
  simp only [Sem.run_pure] at hst;injection hst with _ hst;subst hst;simp [Builtin.append_,run_underlying ht,run_underlying hu,hsz,hn,hf,hroom,hint]
 | some a=>simp [Builtin.append_,run_underlying ht,run_underlying hu,hsz,hn,hf,hroom,hint,hst]
theorem vv {t u e:TypeId} {d:TypeDesc} {ty:TypeId} (ht:P.underlying t=some (.slice e))(hu:P.underlying u=some d)(hd: ∀k,d≠ .int k)(he:(ax P e).ok=true)
  {base:Option Addr} {sLen sCap n:Nat} {xv:Value} {olds news:Array Value} {z:Value} (hn:(Builtin.lenOf xv).run P w= .ok n w) (hg:sCap<sLen+n) (hfit:(sLen+n)*(ax P e).bytes≤140737488355328) (h63:sLen+n≤140737488355328)
  (ho:(Builtin.firstCells (ax P e).cells sLen (.slice base sLen sCap)).run P w.drew= .ok olds w.drew) (hf:(Builtin.firstCells (ax P e).cells n xv).run P w.drew= .ok news w.drew) (hz:(zeroValue e).run P w.drew= .ok z w.drew):
  (Builtin.append_ #[t,u] ty #[.slice base sLen sCap,xv]).run P w= .ok (.slice (some ⟨w.heap.size,0,none⟩) (sLen+n) (grownCap w (sLen+n) sCap e))
   (w.drew.alloc (.cells (olds++news++Builtin.zeroCells z.cells (grownCap w (sLen+n) sCap e - (sLen+n))) e)):=by
 have hint:(match d with | .int _=>true | _=>false)=false:=by cases d <;> first | rfl | exact absurd rfl (hd _)
 obtain⟨de,i,hde,hi,eqe⟩:=dX he;have hb:(ax P e).bytes=i.bytes:=by rw [eqe]
 have hc:(ax P e).cells=i.size:=by rw [eqe]
 rw [hb] at hfit;rw [hc] at ho hf;have hroom: ¬(sLen+n≤sCap):=by omega
 have h63': ¬(9223372036854775807<((sLen:Int)+(n:Int))):=by omega
 have h48': ¬(281474976710656<Builtin.nextslicecap (sLen+n) sCap*i.bytes):=by
  have:=growslice_fits hg hfit;omega
 simp [Builtin.append_,run_underlying ht,run_underlying hu,sizeOf,typeInfo,hi,hn,hroom,hint,h63',h48',Question.forced,ho,hf,hz,newRow,grownCap]
theorem Ja (hh:dm gl h J w) {ts:List TypeId} {ty:TypeId} {s x:AV} {us ux:Value} (hs:aQ J (Own h J) w s us)(hx:aQ J (Own h J) w x ux)(hok:ae P h ts s x) {R:AV→ak→Prop} (hR:ai (dL P (ts.headD 0)) h s x R):
  j6 P gl h J w (Builtin.append_ ts.toArray ty #[us,ux]) R:=by
 unfold ae at hok;split at hok
 ·rename_i t u;obtain⟨hui,huok,hok⟩:=hok;split at hok
  ·rename_i e hk;have hec:dL P ([t,u].headD 0)=(ax P e).cells:=by simp [dL,hk]
   rw [hec] at hR;obtain⟨hz,hpos,hsk,hks,hkx,hls,hlx,hbytes,h63⟩:=hok;obtain⟨ht,_⟩:=dF hk;obtain⟨d,iu,hu,_,equ⟩:=dX huok;have hd: ∀k,d≠ .int k:=by
    rintro k rfl;rw [equ] at hui;exact hui
   have heok:=hz.1;obtain⟨ns,n1,n2,n3,n4,n5⟩:=kI (P:=P) hh hpos hx hkx hlx;obtain⟨os,o1,o2,o3,o4,o5⟩:=kI (P:=P) hh hpos hs hks hls;have hsz:=cK heok w;unfold ai at hR;have empty: ∀(base:Option Addr) (z:AV),us= .slice base 0 0→aelems h s=[]→aQ J (Own h J) w z (.slice base 0 0)→(aelems h x=[]→R z h)→(aelems h x≠[]→R (.own h.length 0 (aelems h x).length) (h++[.cells (ax P e).cells (aelems h x)]))→
     j6 P gl h J w (Builtin.append_ [t,u].toArray ty #[us,ux]) R:=by
    rintro base z rfl hes hz' hR1 hR2;by_cases hxe:aelems h x=[]
    ·refine⟨.slice base 0 0,w,J,z,h,?_,hh,hz',jE.refl _ _ _,hR1 hxe⟩;rw [hxe] at n1 n2 n3;have hns:ns=[]:=List.eq_nil_of_length_eq_zero (by simpa using n3);subst hns;have:=wV (P:=P) (w:=w) (w':=w) (ty:=ty) ht hu hd hsz (base:=base) (sLen:=0) (sCap:=0) n1 n2 (by simp) (by cases base <;> rfl);exact this
    ·have hlen:0<(aelems h x).length:=List.length_pos_iff.2 hxe;obtain⟨olds,news,zz,p1,p2,p3,p4,p5⟩:=DV (P:=P) hh hz hpos hh.drew.1 hh.drew.2 hs hx hks hkx hls hlx (grownCap w (0+(aelems h x).length) 0 e) (by rw [hes];exact grownCap_ge _ _ _ _);rw [hes] at p1 p4 p5;have hrun:=vv (P:=P) (w:=w) (ty:=ty) ht hu hd heok (base:=base) (sLen:=0) (sCap:=0) n1 (by omega) (by rw [hes] at hbytes;exact hbytes) (by rw [hes] at h63;exact h63) p1 p2 p3;refine⟨_,_,_,_,_,hrun,p4,?_,p5,hR2 hxe⟩;have:=vH hh (aelems h x) (ax P e).cells (grownCap w (0+(aelems h x).length) 0 e) (w.drew.alloc (.cells (olds++news++Builtin.zeroCells zz.cells (grownCap w (0+(aelems h x).length) 0 e - (0+(aelems h x).length))) e)) (.cells (ax P e).cells (aelems h x)) (by have:=grownCap_ge w (0+(aelems h x).length) 0 e;omega);simpa using this
   cases s with
   | nil=>
    cases hs
    exact empty none .nil rfl rfl .nil hR.1 hR.2
   | e0=>
    cases hs with
    | e0 a=>exact empty a .e0 rfl rfl (.e0 a) hR.1 hR.2
   | own b off len=>
    simp only at hsk;simp only [slOk] at hks;have hslen:(aelems h (.own b off len)).length=len:=by simp [aelems];omega
    cases hs with
    | own _ _ _ k a cap hb ha hle hcap=>
     obtain⟨es,he,hkn',hes⟩:=K6 hh hb (by omega);have hkn:k.n=(ax P e).cells:=by rw [←hkn',hsk]
     obtain⟨_,hn,hcap',hlens,vs,T,hheap,hvsz,hcell⟩:=hh.obj b k _ hb he;by_cases hroom:len+(aelems h x).length≤cap
     ·
      have hoffk:off≤k.cap:=by omega
      have ha':0<cap→a=⟨k.r,k.base+off*k.n,none⟩:=ha;have hst: ∃(w':World) (new:Array Value),(storeCells (a.add (len*(ax P e).cells)) ns).run P w= .ok () w'∧w'.heap[k.r]? =some (.cells new T (0,0))∧new.size=vs.size∧
        (∀j,new[j]? =if k.base+(off+len)*k.n≤j∧j<k.base+(off+len)*k.n+ns.length then ns[j - (k.base+(off+len)*k.n)]? else vs[j]?)∧(∀b,b≠k.r→w'.heap[b]? =w.heap[b]?)∧w'.heap.size=w.heap.size∧w'.os=w.os∧w'.tape=w.tape∧w'.output=w.output:=by
       by_cases hns0:ns=[]
       ·subst hns0;exact⟨w,vs,rfl,hheap,rfl,fun j=>by rw [if_neg (by simp only [List.length_nil];omega)],fun _ _=>rfl,rfl,rfl,rfl,rfl⟩
       ·have hxpos:0<(aelems h x).length:=by
         rcases Nat.eq_zero_or_pos (aelems h x).length with h0 | h0
         ·rw [h0,Nat.zero_mul] at n3;exact absurd (List.eq_nil_of_length_eq_zero n3) hns0
         ·exact h0
        have hfit:(off+len)*k.n+ns.length≤k.cap*k.n:=by
         rw [n3,←hkn,←Nat.add_mul];exact Nat.mul_le_mul_right _ (by omega)
        obtain⟨w',new,e1,e2,e3,e4,e5⟩:=jX (P:=P) k.r (k.base+(off+len)*k.n) T ns 0 vs w hheap (by omega) n4;refine⟨w',new,?_,e2,e3,by simpa using e4,e5⟩;rw [ha' (by omega),mM,←hkn,show k.base+off*k.n+len*k.n=k.base+(off+len)*k.n by rw [Nat.add_mul];omega];exact e1
      obtain⟨w',new,e1,e2,e3,e4,e5,e6,e7,e8,e9⟩:=hst;have hesl:off+len≤es.length:=by rw [←hes];exact hks
      have htk:(es.take (off+len)).length=off+len:=by simp;omega
      obtain⟨r1,ev1⟩:=hh.set (o':= .cells k.n es) (k:=k) (w':=w') (.cells k.n (es.take (off+len)++aelems h x)) hb he (by simp) e6 e5 e7 e8 e9 (by
       intro O' hm;refine⟨rfl,hn,by simp;omega,?_,new,T,e2,by omega,?_⟩
       ·intro i ee hi;rcases zN i (off+len) with hlt | hge
        ·rw [zC (by omega),List.getElem?_take_of_lt hlt] at hi;exact hlens i ee hi
        ·rw [zD (by omega)] at hi;rw [hkn];exact hlx _ (zF hi)
       ·intro i ee c y hi hy;rcases zN i (off+len) with hlt | hge
        ·rw [zC (by omega),List.getElem?_take_of_lt hlt] at hi;obtain⟨v,p1,p2,p3⟩:=hcell i ee c y hi hy;refine⟨v,?_,p2,hm _ _ p3⟩;have hcl:c<k.n:=by
          rw [←hlens i ee hi];exact (zA.1 hy).1
         have:(i+1)*k.n≤(off+len)*k.n:=Nat.mul_le_mul_right _ hlt;rw [Nat.add_mul,Nat.one_mul] at this;rw [e4,if_neg (by omega)];exact p1
        ·rw [zD (by omega),htk] at hi;obtain⟨v,p1,p2⟩:=n5 _ ee c y hi hy;refine⟨v,?_,n4 _ (zF p1),hm _ _ p2⟩;have hlt:=(zA.1 p1).1;have e0:i*k.n=(off+len)*k.n+(i - (off+len))*k.n:=by rw [←Nat.add_mul];congr 1;omega
         rw [←hkn] at p1 hlt;rw [e4,if_pos (by omega),←p1];congr 1
         omega)
      have hblt:b<h.length:=(zA.1 he).1;obtain⟨r2,ev2⟩:=r1.move (b:=b) (k:=k) (o':= .cells k.n (es.take (off+len)++aelems h x)) ⟨k.r,k.base+off*k.n,k.n,k.cap - off⟩ (.cells k.n (aelems h (.own b off len)++aelems h x)) hb (zI hblt) (by simp) rfl (by
       intro J' O' hm;obtain⟨_,_,q2,q3,vs',T',q4,q5,q6⟩:=r1.obj b k _ hb (zI hblt);have hdrop:aelems h (.own b off len)++aelems h x=(es.take (off+len)++aelems h x).drop off:=by
        rw [List.drop_append_of_le_length (by omega)];congr 1
        simp only [aelems,hes];rw [List.drop_take,Nat.add_sub_cancel_left]
       rw [hdrop];refine⟨rfl,hn,by simp;omega,?_,vs',T',q4,?_,?_⟩
       ·intro i ee hi;rw [List.getElem?_drop] at hi;exact q3 _ ee hi
       ·have:k.base+off*k.n+(k.cap - off)*k.n=k.base+k.cap*k.n:=by
         rw [Nat.add_assoc,←Nat.add_mul];congr 2;omega
        simp only;omega
       ·intro i ee c y hi hy;rw [List.getElem?_drop] at hi;obtain⟨v,p1,p2,p3⟩:=q6 _ ee c y hi hy;refine⟨v,?_,p2,hm _ _ p3⟩;simp only;rw [←p1,Nat.add_mul];congr 1
        omega)
      rw [List.set_set] at r2 ev2;have hrun:=wV (P:=P) (w:=w) (w':=w') (ty:=ty) ht hu hd hsz (base:=some a) (sLen:=len) (sCap:=cap) n1 n2 hroom e1;rw [hkn] at r2 ev1 ev2;refine⟨_,w',_,_,_,hrun,r2,?_,ev1.trans ev2,hR⟩;rw [hslen];have hlast:(J++[(⟨k.r,k.base+off*(ax P e).cells,(ax P e).cells,k.cap - off⟩:eF)])[h.length]? =some ⟨k.r,k.base+off*(ax P e).cells,(ax P e).cells,k.cap - off⟩:=ko hh _;refine .own _ 0 (len+(aelems h x).length) _ a cap hlast (fun hc0=> ?_) hroom (by simp only;omega);rw [ha' hc0,hkn];simp
     ·obtain⟨hkl,evk⟩:=hh.kill (b:=b);obtain⟨hkd,evd⟩:=hkl.drew;obtain⟨olds,news,zz,p1,p2,p3,p4,p5⟩:=DV (P:=P) hh hz hpos hkd (evk.trans evd) (.own b off len k a cap hb ha hle hcap) hx hks hkx hls hlx (grownCap w (len+(aelems h x).length) cap e) (by rw [hslen];exact grownCap_ge _ _ _ _);rw [hslen] at p1 p4 p5;have hrun:=vv (P:=P) (w:=w) (ty:=ty) ht hu hd heok (base:=some a) (sLen:=len) (sCap:=cap) n1 (by omega) (by rw [hslen] at hbytes;exact hbytes) (by rw [hslen] at h63;exact h63) p1 p2 p3;refine⟨_,_,_,_,_,hrun,p4,?_,p5,hR⟩;have hll:(aelems h (.own b off len)++aelems h x).length=len+(aelems h x).length:=by simp [hslen]
      have:=vH hkd (aelems h (.own b off len)++aelems h x) (ax P e).cells (grownCap w (len+(aelems h x).length) cap e) (w.drew.alloc (.cells (olds++news++Builtin.zeroCells zz.cells (grownCap w (len+(aelems h x).length) cap e - (len+(aelems h x).length))) e)) (.cells (ax P e).cells (aelems h (.own b off len)++aelems h x)) (by rw [hll];exact grownCap_ge _ _ _ _);rw [hslen];rw [hll] at this;simpa using this
   | _=>exact hR.elim
  ·exact hok.elim
 ·exact hok.elim
def uB (P:Program)(h:ak)(ts:List TypeId)(d x:AV):Prop:=match ts with
 | [t,_]=>match (ax P t).kind with
  | .slice e=>(ax P e).ok=true∧0<(ax P e).cells∧slOk h x∧(∀y∈aelems h x,y.length=(ax P e).cells)∧match d with
   | .own b off len=>hsz h b=(ax P e).cells∧off+len≤(hcells h b).length∧(aelems h x).length≤len
   | _=>False
  | _=>False
 | _=>False
def uA (n:Nat)(h:ak)(d x:AV)(k:AV→ak→Prop):Prop:=match d with
 | .own b off _=>k (.int .i64 (aelems h x).length) (h.set b (.cells n ((hcells h b).take off++aelems h x++(hcells h b).drop (off+(aelems h x).length))))
 | _=>False
theorem JZ {t u e:TypeId} {ty:TypeId} (ht:P.underlying t=some (.slice e)) {size:Nat} (hsz:(sizeOf e).run P w= .ok size w)
  {a:Addr} {dLen dCap n:Nat} {xv:Value} {news:Array Value} {w':World} (hn:(Builtin.lenOf xv).run P w= .ok n w) (hle:n≤dLen) (hf:(Builtin.firstCells size n xv).run P w= .ok news w)
  (hst:(storeCells a news.toList).run P w= .ok () w'):
  (Builtin.copy_ #[t,u] ty #[.slice (some a) dLen dCap,xv]).run P w= .ok (goInt n) w':=by
 have hm:Nat.min n dLen=n:=Nat.min_eq_left hle;simp [Builtin.copy_,run_underlying ht,hsz,hn,hf,hst,hm]
theorem Nf (hh:dm gl h J w) {ts:List TypeId} {ty:TypeId} {s x:AV} {us ux:Value} (hs:aQ J (Own h J) w s us)(hx:aQ J (Own h J) w x ux)(hok:uB P h ts s x) {R:AV→ak→Prop} (hR:uA (dL P (ts.headD 0)) h s x R):
  j6 P gl h J w (Builtin.copy_ ts.toArray ty #[us,ux]) R:=by
 unfold uB at hok;split at hok
 ·rename_i t u;split at hok
  ·rename_i e hk;have hec:dL P ([t,u].headD 0)=(ax P e).cells:=by simp [dL,hk]
   rw [hec] at hR;obtain⟨heok,hpos,hkx,hlx,hok⟩:=hok;obtain⟨ht,_⟩:=dF hk;obtain⟨ns,n1,n2,n3,n4,n5⟩:=kI (P:=P) hh hpos hx hkx hlx;have hsz:=cK heok w
   cases s with
   | own b off len=>
    obtain⟨hsk,hks,hle⟩:=hok;simp only [uA] at hR
    cases hs with
    | own _ _ _ k a cap hb ha hlec hcap=>
     obtain⟨es,he,hkn',hes⟩:=K6 hh hb (by omega);have hkn:k.n=(ax P e).cells:=by rw [←hkn',hsk]
     obtain⟨_,hn,hcap',hlens,vs,T,hheap,hvsz,hcell⟩:=hh.obj b k _ hb he;have ha':0<cap→a=⟨k.r,k.base+off*k.n,none⟩:=ha;have hst: ∃(w':World) (new:Array Value),(storeCells a ns).run P w= .ok () w'∧w'.heap[k.r]? =some (.cells new T (0,0))∧new.size=vs.size∧
       (∀j,new[j]? =if k.base+off*k.n≤j∧j<k.base+off*k.n+ns.length then ns[j - (k.base+off*k.n)]? else vs[j]?)∧(∀b,b≠k.r→w'.heap[b]? =w.heap[b]?)∧w'.heap.size=w.heap.size∧w'.os=w.os∧w'.tape=w.tape∧w'.output=w.output:=by
      by_cases hns0:ns=[]
      ·subst hns0;exact⟨w,vs,rfl,hheap,rfl,fun j=>by rw [if_neg (by simp only [List.length_nil];omega)],fun _ _=>rfl,rfl,rfl,rfl,rfl⟩
      ·have hxpos:0<(aelems h x).length:=by
        rcases Nat.eq_zero_or_pos (aelems h x).length with h0 | h0
        ·rw [h0,Nat.zero_mul] at n3;exact absurd (List.eq_nil_of_length_eq_zero n3) hns0
        ·exact h0
       have hfit:off*k.n+ns.length≤k.cap*k.n:=by
        rw [n3,←hkn,←Nat.add_mul];exact Nat.mul_le_mul_right _ (by omega)
       obtain⟨w',new,e1,e2,e3,e4,e5⟩:=jX (P:=P) k.r (k.base+off*k.n) T ns 0 vs w hheap (by omega) n4;refine⟨w',new,?_,e2,e3,by simpa using e4,e5⟩;rw [ha' (by omega)];exact e1
     obtain⟨w',new,e1,e2,e3,e4,e5,e6,e7,e8,e9⟩:=hst;rw [hes] at hks hR;have htk:(es.take off).length=off:=by simp;omega
     obtain⟨r1,ev1⟩:=hh.set (o':= .cells k.n es) (k:=k) (w':=w') (.cells k.n (es.take off++aelems h x++es.drop (off+(aelems h x).length))) hb he (by simp) e6 e5 e7 e8 e9 (by
      intro O' hm;refine⟨rfl,hn,by simp;omega,?_,new,T,e2,by omega,?_⟩
      ·intro i ee hi;have hmem:=zF hi;simp only [List.mem_append] at hmem;rcases hmem with (hm1 | hm2) | hm3
       ·obtain⟨j,hj⟩:=List.getElem?_of_mem (List.mem_of_mem_take hm1);exact hlens j ee hj
       ·rw [hkn];exact hlx _ hm2
       ·obtain⟨j,hj⟩:=List.getElem?_of_mem (List.mem_of_mem_drop hm3);exact hlens j ee hj
      ·intro i ee c y hi hy;by_cases hmid:off≤i∧i<off+(aelems h x).length
       ·rw [zK,zD (by omega),htk,zC (by omega)] at hi;obtain⟨v,p1,p2⟩:=n5 _ ee c y hi hy;refine⟨v,?_,n4 _ (zF p1),hm _ _ p2⟩;have hlt:=(zA.1 p1).1;have e0:i*k.n=off*k.n+(i - off)*k.n:=by rw [←Nat.add_mul];congr 1;omega
        rw [←hkn] at p1 hlt;rw [e4,if_pos (by omega),←p1];congr 1
        omega
       ·have hi':es[i]? =some ee:=by
         rcases zN i off with hlt | hge
         ·rwa [zK,zC (by omega),List.getElem?_take_of_lt hlt] at hi
         ·rw [zD (by simp;omega),List.getElem?_drop,List.length_append,htk] at hi;rwa [show off+(aelems h x).length+(i - (off+(aelems h x).length))=i by omega] at hi
        obtain⟨v,p1,p2,p3⟩:=hcell i ee c y hi' hy;refine⟨v,?_,p2,hm _ _ p3⟩;have hcl:c<k.n:=by
         rw [←hlens i ee hi'];exact (zA.1 hy).1
        rw [e4,if_neg]
        ·exact p1
        ·rw [n3,←hkn];rcases zN i off with hlt | hge
         ·have:(i+1)*k.n≤off*k.n:=Nat.mul_le_mul_right _ hlt;rw [Nat.add_mul,Nat.one_mul] at this;omega
         ·have:(off+(aelems h x).length)*k.n≤i*k.n:=Nat.mul_le_mul_right _ (by omega);rw [Nat.add_mul] at this;omega)
     have hrun:=JZ (P:=P) (w:=w) (w':=w') (ty:=ty) (u:=u) ht hsz (a:=a) (dLen:=len) (dCap:=cap) n1 hle n2 e1;rw [hkn] at r1 ev1;exact⟨_,w',_,_,_,hrun,r1,.int _ _,ev1,hR⟩
   | _=>exact hok.elim
  ·exact hok.elim
 ·exact hok.elim
end
end Go.Abs
end
section
namespace Go.Abs
open Go
section
variable {P : Program} {gl : aR} {J : List eF} {h : ak} {w : World} {O : Nat → Prop} {fr : aP} {N : Nat}
def pU (P:Program)(t:TypeId)(l c:AV):Prop:=match (ax P t).kind with
 | .slice e=>mZ (ax P e)∧0<(ax P e).cells∧isInt l∧isInt c∧0≤jv l∧jv l≤jv c∧((ax P e).bytes:Int)*jv c≤281474976710656∧jv c≤9223372036854775807
 | _=>False
def qJ (P:Program)(t:TypeId):List AV:=match (ax P t).kind with
 | .slice e=>(ax P e).zero
 | _=>[]
theorem BN (hh:dm gl h J w) {t:TypeId} {l c:AV} {vl vc:Value} (hl:aQ J (Own h J) w l vl)(hc:aQ J (Own h J) w c vc)(hok:pU P t l c) {R:AV→ak→Prop}
  (hR:R (.own h.length 0 (jv l).toNat) (h++[.cells (dL P t) (List.replicate (jv l).toNat (qJ P t))])):j6 P gl h J w (Instr.makeSlice t vl vc) R:=by
 unfold pU at hok;split at hok
 ·rename_i e hk;obtain⟨hz,hpos,il,ic,h1,h2,h3,h4⟩:=hok;have hec:dL P t=(ax P e).cells:=by simp [dL,hk]
  have hez:qJ P t=(ax P e).zero:=by simp [qJ,hk]
  rw [hec,hez] at hR;obtain⟨hu,_⟩:=dF hk;obtain⟨heok,hezok,hzl⟩:=hz;obtain⟨kl,rfl⟩:=xx hl il;obtain⟨kc,rfl⟩:=xx hc ic;generalize jv l=L at*;generalize jv c=C at*;obtain⟨z,hz1,hz2,hz3,hz4⟩:=fT heok hezok w;obtain⟨de,i,hde,hi,eqe⟩:=dX heok;have hb:(ax P e).bytes=i.bytes:=by rw [eqe]
  have hcs:(ax P e).cells=i.size:=by rw [eqe]
  have hzz:i.zero=some z:=by
   simp only [zeroValue,typeInfo,Sem.run_bind,run_program,Result.andThen_ok,hi,Sem.run_pure] at hz1
   cases hq:i.zero with
   | none=>simp [hq] at hz1
   | some zz=>simp [hq] at hz1;rw [hz1]
  have hrun:=run_make (P:=P) w t e i z hu hi hzz kl kc L C h1 h2 (by rw [←hb];exact h3) h4;have hzr:=kE (J:=J) (O:=Own h J) (w:=w) hz2;rw [←hz3] at hzr;have hzlen:z.cells.size=(ax P e).cells:=by
   have:=hzr.1;simp only [Array.length_toList] at this;omega
  have hlen:(List.replicate L.toNat (ax P e).zero).length=L.toNat:=by simp
  obtain⟨r1,r2⟩:=mq hh e (madeCells z.cells (C.toNat* i.size)) (List.replicate L.toNat (ax P e).zero) (ax P e).cells C.toNat hpos (by simp;omega) (by simp [size_madeCells,hcs]) (by
   intro j ee hj;rw [List.getElem?_replicate] at hj;split at hj
   ·injection hj with hj;rw [←hj,hzl]
   ·cases hj) (by
   intro j ee c' x hj hx;rw [List.getElem?_replicate] at hj;split at hj
   ·rename_i hjl;injection hj with hj;subst hj;have hcl:c'<(ax P e).cells:=by rw [←hzl];exact (zA.1 hx).1
    have hlt:j*(ax P e).cells+c'<C.toNat* i.size:=by
     have:(j+1)*(ax P e).cells≤C.toNat* (ax P e).cells:=Nat.mul_le_mul_right _ (by omega);rw [Nat.add_mul,Nat.one_mul] at this;rw [←hcs];omega
    have hmod:(j*(ax P e).cells+c') % z.cells.size=c':=by
     rw [hzlen,Nat.mul_comm,Nat.mul_add_mod,Nat.mod_eq_of_lt hcl]
    have hv:z.cells.toList[c']? =some (z.cells.toList[c']'(by simp;omega)):=zB (by simp;omega);refine⟨z.cells.toList[c']'(by simp;omega),?_,hz2 _ (List.getElem_mem _),hzr.2 _ _ _ hx hv⟩;unfold madeCells;rw [Array.getElem?_map,Array.getElem?_eq_getElem (by simpa using hlt)];simp only [Array.getElem_range,Option.map_some,hmod];rw [getElem!_pos z.cells c' (by omega)];simp
   ·cases hj)
  refine⟨_,_,_,_,_,hrun,r1,?_,r2,hR⟩;have:=vH hh (List.replicate L.toNat (ax P e).zero) (ax P e).cells C.toNat (w.alloc (.cells (madeCells z.cells (C.toNat* i.size)) e)) (.cells (ax P e).cells (List.replicate L.toNat (ax P e).zero)) (by simp;omega);rw [hlen] at this;exact this
 ·exact hok.elim
theorem Gg (hh:dm gl h J w) {t:TypeId} {r:Option Value} {k e:TypeId} (hk:(ax P t).kind= .map k e)(hr: ∀v∈r,∃kd n,v= .int kd n) {R:AV→ak→Prop} (hR:R (.map h.length) (h++[.map []])):
  j6 P gl h J w (Instr.makeMap t r) R:=by
 obtain⟨hu,_⟩:=oI hk;obtain⟨r1,r2⟩:=hh.alloc (.map #[] 0) ⟨w.heap.size,0,1,0⟩ (.map []) rfl (fun J' O' hm=>⟨#[],0,heap_alloc_new w _,rfl,by simp,rfl,by simp⟩);refine⟨.map (some w.heap.size),w.alloc (.map #[] 0),_,_,_,?_,r1,.map _ _ (ko hh _),r2,hR⟩
 cases r with
 | none=>simp [Instr.makeMap]
 | some v=>
  obtain⟨kd,n,rfl⟩:=hr v rfl;simp [Instr.makeMap,run_underlying hu,asInt,asIntOf]
def w9 (kvs:List (AV×AV))(k v:AV):List (AV×AV):=match o9 kvs k with
 | some i=>kvs.set i (k,v)
 | none=>kvs++[(k,v)]
theorem GV {x y:AV} {u v:Value} (n:Nat)(hx:aQ J O w x u)(hy:aQ J O w y v) {b:BK} (hc:De b x y)(he:nJ x y=true):Instr.sameBits n u v=true:=by
 unfold De at hc;split at hc
 ·cases hx;cases hy
  simp only [nJ] at he;subst hc;unfold Instr.sameBits;simpa using he
 ·cases hx;cases hy
  simp only [nJ,beq_iff_eq] at he;subst he;cases n <;> simp [Instr.sameBits,beq_toListBytes]
 ·cases hx;cases hy
  simp only [nJ] at he;unfold Instr.sameBits;simpa using he
 ·exact hc.elim
theorem AQ (n:Nat): ∀(bs:List BK) (xs ys:List AV) (us vs:List Value),nL bs xs ys→bX J O w xs us→bX J O w ys vs→ku xs ys=true→(us.zip vs).all (fun (p:Value×Value)=>Instr.sameBits n p.1 p.2)=true
 | [],[],[],us,vs,_,hx,_,_=>by
  have:us=[]:=List.eq_nil_of_length_eq_zero hx.1.symm;subst this;rfl
 | b::bs,x::xs,y::ys,us,vs,hc,hx,hy,he=>by
  match us,vs,hx.1,hy.1 with
  | u::us,v::vs,_,_=>
   simp only [nL] at hc;simp only [ku,Bool.and_eq_true] at he;have r1:=hx.2 0 x u rfl rfl;have r2:=hy.2 0 y v rfl rfl;simp only [List.zip_cons_cons,List.all_cons,Bool.and_eq_true];refine⟨GV n r1 r2 hc.1 he.1,AQ n bs xs ys us vs hc.2 ⟨by simpa using hx.1,fun i a c h1 h2=>hx.2 (i+1) a c (by simpa using h1) (by simpa using h2)⟩ ⟨by simpa using hy.1,fun i a c h1 h2=>hy.2 (i+1) a c (by simpa using h1) (by simpa using h2)⟩ he.2⟩
 | [],[],_::_,_,_,h,_,_,_=>by simp [nL] at h
 | [],_::_,_,_,_,h,_,_,_=>by simp [nL] at h
 | _::_,[],_,_,_,h,_,_,_=>by simp [nL] at h
 | _::_,_::_,[],_,_,h,_,_,_=>by simp [nL] at h
theorem yZ {t:TypeId} {k p:AV} {u v:Value} {bs:List BK} (hf:flat P 50 t=some bs)(hak:dY (ax P t) k)(hap:dY (ax P t) p)(hk:aQ J O w k u)(hp:aQ J O w p v)(hc:nL bs (ah k) (ah p))(he:ku (ah k) (ah p)=true):
  (Instr.keyThatStays v u).run P w= .ok u w:=by
 have hsb:Instr.sameBits 10000 v u=true:=by
  have hsym: ∀(bs:List BK) (xs ys:List AV),nL bs xs ys→ku xs ys=true→nL bs ys xs∧ku ys xs=true:=by
   intro bs
   induction bs with
   | nil=>
    intro xs ys h1 h2;have:=gN _ _ _ h1;have e1:xs=[]:=by simpa using this.1
    have e2:ys=[]:=by simpa using this.2
    subst e1;subst e2
    exact⟨h1,h2⟩
   | cons b bs ih=>
    intro xs ys h1 h2
    cases xs with
    | nil=>simp [nL] at h1
    | cons x xs=>
     cases ys with
     | nil=>simp [nL] at h1
     | cons y ys=>
      simp only [nL] at h1 ⊢;simp only [ku,Bool.and_eq_true] at h2 ⊢;obtain⟨i1,i2⟩:=ih xs ys h1.2 h2.2;have:De b y x∧nJ y x=true:=by
       have h3:=h1.1;have h4:=h2.1;unfold De at h3;split at h3
       ·simp only [nJ,beq_iff_eq] at h4 ⊢;subst h3;subst h4;exact⟨rfl,rfl⟩
       ·simp only [nJ,beq_iff_eq] at h4 ⊢;subst h4;exact⟨trivial,rfl⟩
       ·simp only [nJ,beq_iff_eq] at h4 ⊢;subst h4;exact⟨trivial,rfl⟩
       ·exact h3.elim
      exact⟨⟨this.1,i1⟩,this.2,i2⟩
  obtain⟨hc',he'⟩:=hsym _ _ _ hc he;unfold dY at hak hap
  cases hag:(ax P t).agg with
  | true=>
   rw [hag] at hak hap;cases k <;> simp only at hak
   cases p <;> simp only at hap
   simp only [ah] at hc' he'
   cases hk with
   | agg _ us hl1 ho1 h1=>
    cases hp with
    | agg _ vs hl2 ho2 h2=>
     have:=AQ (J:=J) (O:=O) (w:=w) 9999 bs _ _ vs us hc' ⟨hl2,h2⟩ ⟨hl1,h1⟩ he';have hlen:=gN _ _ _ hc';show (vs.toArray.size==us.toArray.size && (vs.toArray.toList.zip us.toArray.toList).all fun (x,y)=>Instr.sameBits 9999 x y)=true;simp only [List.size_toArray,Bool.and_eq_true,beq_iff_eq];exact⟨by omega,this⟩
  | false=>
   rw [hag] at hak hap;have hnk: ∀cs,k≠ .agg cs:=by rintro cs rfl;simp at hak
   have hnp: ∀cs,p≠ .agg cs:=by rintro cs rfl;simp at hap
   rw [gm hk hnk,gm hp hnp] at hc' he';obtain⟨b,rfl⟩:=List.length_eq_one_iff.1 ((gN _ _ _ hc').1.symm);simp only [nL,and_true] at hc';simp only [ku,Bool.and_true] at he';exact GV 10000 hp hk hc' he'
 simp [Instr.keyThatStays,hsb]
theorem GU {es:Array MapEntry} {clock:Nat} (hc:clock=es.size)(hb: ∀(i:Nat) (e:MapEntry),es[i]? =some e→e.born=i) {x:MapEntry} (hx:x.born=clock): ∀(i:Nat) (e:MapEntry),(es.push x)[i]? =some e→e.born=i:=by
 intro i e hi;rw [Array.getElem?_push] at hi;split at hi
 ·rename_i hie;injection hi with hi;rw [←hi,hx,hc,hie]
 ·exact hb i e hi
theorem ul {es:Array MapEntry} {j:Nat} {f:MapEntry→MapEntry} (hb: ∀(i:Nat) (e:MapEntry),es[i]? =some e→e.born=i)(hf: ∀e,(f e).born=e.born): ∀(i:Nat) (e:MapEntry),(es.modify j f)[i]? =some e→e.born=i:=by
 intro i e hi;rw [Array.getElem?_modify] at hi;split at hi
 ·cases hx:es[i]? with
  | none=>simp [hx] at hi
  | some x=>
   simp [hx] at hi;rw [←hi,hf];exact hb i x hx
 ·exact hb i e hi
theorem tK (hh:dm gl h J w) {t kt et:TypeId} {b:Nat} {k x:AV} {vm vk vx:Value} (ht:(ax P t).kind= .map kt et)(hm:aQ J (Own h J) w (.map b) vm)(hk:aQ J (Own h J) w k vk)(hx:aQ J (Own h J) w x vx)
  (him:isMap h b=true) (hks:bC P kt k (hmap h b)) {R:ak→Prop} (hR:R (h.set b (.map (w9 (hmap h b) k x)))):CG P gl h J w (Instr.mapUpdate t vm vk vx) R:=by
 obtain⟨hu,_⟩:=oI ht;unfold isMap at him;split at him
 ·rename_i kvs hb;have hkv:hmap h b=kvs:=by simp [hmap,hb]
  rw [hkv] at hks hR
  cases hm with
  | map _ kb hkb=>
   obtain⟨es,clock,h1,h2,h3,h4c,h4⟩:=hh.obj b kb _ hkb hb;have hg:(getObj kb.r).run P w= .ok (.map es clock) w:=mJ h1 (by intros;simp);have hck:=vJ (P:=P) false hks hk;have hfk:=mg (P:=P) hk hks (es:=es.toList) (by simpa using h2) (fun i e p h4 h5=>(h3 i e p (by simpa using h4) h5).1);have hlt:kb.r<w.heap.size:=hh.lt b kb hkb;have hset: ∀o:Obj,(setObj kb.r o).run P w= .ok () { w with heap:=w.heap.setIfInBounds kb.r o }:=by
    intro o;simp only [setObj,Sem.run,h1]
   have done: ∀(o:Obj) (kvs':List (AV×AV)),w9 kvs k x=kvs'→(∀(O':Nat→Prop) (w':World),w'.heap[kb.r]? =some o→(∀y v,aQ J (Own h J) w y v→aQ J O' w' y v)→wY J O' w' kb (.map kvs'))→
     (Instr.mapUpdate t (.map (some kb.r)) vk vx).run P w= .ok () { w with heap:=w.heap.setIfInBounds kb.r o }→CG P gl h J w (Instr.mapUpdate t (.map (some kb.r)) vk vx) R:=by
    intro o kvs' e1 e2 e3;have hnew:({ w with heap:=w.heap.setIfInBounds kb.r o }:World).heap[kb.r]? =some o:=by simp [hlt]
    obtain⟨r1,r2⟩:=hh.set (o':= .map kvs) (k:=kb) (w':= { w with heap:=w.heap.setIfInBounds kb.r o }) (.map kvs') hkb hb (by simp) (by simp) (fun r hr=>by simp [Array.getElem?_setIfInBounds_ne (Ne.symm hr)]) rfl rfl rfl (fun O' hmm=>e2 O' _ hnew hmm);exact⟨_,J,_,e3,r1,r2,by rw [←e1];exact hR⟩
   cases hidx:o9 kvs k with
   | none=>
    have hfa:foundAt kvs k es.toList 0=none:=by simp [foundAt,hidx]
    rw [hfa] at hfk;refine done (.map (es.push { key:=vk,val:=vx,born:=clock }) (clock+1)) (kvs++[(k,x)]) (by simp [w9,hidx]) ?_ ?_
    ·intro O' w' hw' hmm;refine⟨_,_,hw',by simp [h2],?_,by simp [h4c],GU h4c h4 rfl⟩;intro i e p hi hp;rw [Array.getElem?_push] at hi;split at hi
     ·rename_i hie;injection hi with hi;subst hi;rw [hie,h2,zD (Nat.le_refl _),Nat.sub_self] at hp;simp at hp;subst hp;exact⟨hmm _ _ hk,hmm _ _ hx⟩
     ·have hil:i<kvs.length:=by rw [←h2];exact (Array.getElem?_eq_some_iff.1 hi).1
      rw [zC hil] at hp;exact⟨hmm _ _ (h3 i e p hi hp).1,hmm _ _ (h3 i e p hi hp).2⟩
    ·simp [Instr.mapUpdate,run_underlying hu,hg,hck,hfk,hset]
   | some i=>
    have hil:=(List.findIdx?_eq_some_iff_getElem.1 hidx);obtain⟨hlt',hceq,_⟩:=hil;have hie:es[i]? =some (es[i]'(by omega)):=Array.getElem?_eq_getElem (by omega);have hfa:foundAt kvs k es.toList 0=some (i,(es[i]'(by omega)).val):=by
     simp [foundAt,hidx,hie]
    rw [hfa] at hfk;obtain⟨ha,bs,hf,hc,hall⟩:=hks;obtain⟨hap,hcp⟩:=hall kvs[i] (List.getElem_mem hlt');have hkp:=(h3 i _ kvs[i] hie (zB hlt')).1;have hst:=yZ (P:=P) hf ha hap hk hkp hcp hceq;refine done (.map (es.modify i fun e=> { e with key:=vk,val:=vx }) clock) (kvs.set i (k,x)) (by simp [w9,hidx]) ?_ ?_
    ·intro O' w' hw' hmm;refine⟨_,_,hw',by simp [h2],?_,by simp [h4c],ul h4 (fun _=>rfl)⟩;intro j e p hj hp;rw [Array.getElem?_modify] at hj;by_cases hij:i=j
     ·subst hij;rw [if_pos rfl,hie] at hj;simp at hj;subst hj;rw [zI hlt'] at hp;injection hp with hp;subst hp;exact⟨hmm _ _ hk,hmm _ _ hx⟩
     ·rw [if_neg hij] at hj;rw [zJ hij] at hp;exact⟨hmm _ _ (h3 j e p hj hp).1,hmm _ _ (h3 j e p hj hp).2⟩
    ·simp [Instr.mapUpdate,run_underlying hu,hg,hck,hfk,hset,hie,hst]
 ·cases him
theorem R5: ∀(bs:List BK) (xs ys:List AV),nL bs xs ys→ku xs ys=true→xs=ys
 | [],[],[],_,_=>rfl
 | b::bs,x::xs,y::ys,hc,he=>by
  simp only [nL] at hc;simp only [ku,Bool.and_eq_true] at he;have h1:x=y:=by
   obtain⟨h3,_⟩:=hc;have h4:=he.1;unfold De at h3;split at h3
   ·simp only [nJ,beq_iff_eq] at h4;subst h3;subst h4;rfl
   ·simp only [nJ,beq_iff_eq] at h4;subst h4;rfl
   ·simp only [nJ,beq_iff_eq] at h4;subst h4;rfl
   ·exact h3.elim
  rw [h1,R5 bs xs ys hc.2 he.2]
 | [],[],_::_,h,_=>by simp [nL] at h
 | [],_::_,_,h,_=>by simp [nL] at h
 | _::_,[],_,h,_=>by simp [nL] at h
 | _::_,_::_,[],h,_=>by simp [nL] at h
theorem Xc {t:TypeId} {k x:AV} {bs:List BK} (a1:dY (ax P t) k)(a2:dY (ax P t) x)(a3:nL bs (ah k) (ah x))(a4:ku (ah k) (ah x)=true):k=x:=by
 have e:=R5 _ _ _ a3 a4;unfold dY at a1 a2
 cases hag:(ax P t).agg with
 | true=>
  rw [hag] at a1 a2;cases k <;> simp only at a1
  cases x <;> simp only at a2
  simpa [ah] using e
 | false=>
  rw [hag] at a1 a2;have h1:ah k=[k]:=by cases k <;> first | rfl | exact absurd a1 (by simp)
  have h2:ah x=[x]:=by cases x <;> first | rfl | exact absurd a2 (by simp)
  rw [h1,h2] at e;exact (List.cons.inj e).1
def Jb (kvs:List (AV×AV))(k z:AV):List (AV×AV):=match o9 kvs k with
 | some _=>kvs
 | none=>kvs++[(k,z)]
def zq (kvs:List (AV×AV))(k:AV):Nat:=(o9 kvs k).getD kvs.length
def I8 (kvs:List (AV×AV))(i:Nat)(x:AV):List (AV×AV):=match kvs[i]? with
 | some p=>kvs.set i (p.1,x)
 | none=>kvs
theorem Ec (hh:dm gl h J w) {t kt et:TypeId} {b:Nat} {k:AV} {vm vk:Value} (ht:(ax P t).kind= .map kt et)(hz:mZ (ax P et))(hm:aQ J (Own h J) w (.map b) vm)(hk:aQ J (Own h J) w k vk)
  (him:isMap h b=true) (hks:bC P kt k (hmap h b)) {R:AV→ak→Prop}
  (hR:R (.tup [(iy (hmap h b) k).getD (kH (ax P et)),.int .i64 (zq (hmap h b) k)]) (h.set b (.map (Jb (hmap h b) k (kH (ax P et)))))):j6 P gl h J w (Instr.mapEntry t vm vk) R:=by
 obtain⟨hu,_⟩:=oI ht;unfold isMap at him;split at him
 ·rename_i kvs hb;have hkv:hmap h b=kvs:=by simp [hmap,hb]
  rw [hkv] at hks hR
  cases hm with
  | map _ kb hkb=>
   obtain⟨es,clock,h1,h2,h3,h4c,h4⟩:=hh.obj b kb _ hkb hb;obtain⟨z,hz1,hz2⟩:=uk (J:=J) (O:=Own h J) (w:=w) hz;have hg:(getObj kb.r).run P w= .ok (.map es clock) w:=mJ h1 (by intros;simp);have hck:=vJ (P:=P) false hks hk;have hfk:=mg (P:=P) hk hks (es:=es.toList) (by simpa using h2) (fun i e p h4 h5=>(h3 i e p (by simpa using h4) h5).1);have hlt:kb.r<w.heap.size:=hh.lt b kb hkb;have hset: ∀o:Obj,(setObj kb.r o).run P w= .ok () { w with heap:=w.heap.setIfInBounds kb.r o }:=by
    intro o;simp only [setObj,Sem.run,h1]
   have done: ∀(o:Obj) (x:AV) (v:Value),aQ J (Own h J) w x v→R x (h.set b (.map (Jb kvs k (kH (ax P et)))))→(∀(O':Nat→Prop) (w':World),w'.heap[kb.r]? =some o→(∀y v,aQ J (Own h J) w y v→aQ J O' w' y v)→wY J O' w' kb (.map (Jb kvs k (kH (ax P et)))))→
     (Instr.mapEntry t (.map (some kb.r)) vk).run P w= .ok v { w with heap:=w.heap.setIfInBounds kb.r o }→j6 P gl h J w (Instr.mapEntry t (.map (some kb.r)) vk) R:=by
    intro o x v hxv hRx e2 e3;have hnew:({ w with heap:=w.heap.setIfInBounds kb.r o }:World).heap[kb.r]? =some o:=by simp [hlt]
    obtain⟨r1,r2⟩:=hh.set (o':= .map kvs) (k:=kb) (w':= { w with heap:=w.heap.setIfInBounds kb.r o }) (.map (Jb kvs k (kH (ax P et)))) hkb hb (by simp) (by simp) (fun r hr=>by simp [Array.getElem?_setIfInBounds_ne (Ne.symm hr)]) rfl rfl rfl (fun O' hmm=>e2 O' _ hnew hmm);exact⟨v,_,J,x,_,e3,r1,hxv.evo r2,r2,hRx⟩
   cases hidx:o9 kvs k with
   | none=>
    have hfa:foundAt kvs k es.toList 0=none:=by simp [foundAt,hidx]
    rw [hfa] at hfk;have hal:iy kvs k=none:=by
     unfold o9 at hidx;rw [List.findIdx?_eq_none_iff] at hidx;unfold iy;simp only [Option.map_eq_none_iff,List.find?_eq_none];intro p hp;simp [hidx p hp]
    have hap:Jb kvs k (kH (ax P et))=kvs++[(k,kH (ax P et))]:=by simp [Jb,hidx]
    have hpl:zq kvs k=kvs.length:=by simp [zq,hidx]
    rw [hal,hpl] at hR;refine done (.map (es.push { key:=vk,val:=z,born:=clock }) (clock+1)) _ (.tuple #[z,goInt clock]) ?_ hR ?_ ?_
    ·have:bX J (Own h J) w [kH (ax P et),.int .i64 (kvs.length:Int)] [z,goInt clock]:=bX.cons hz2 (bX.cons (by rw [h4c,h2];exact .int _ _) .nil);exact .tup _ _ this.1 this.2
    ·intro O' w' hw' hmm;rw [hap];refine⟨_,_,hw',by simp [h2],?_,by simp [h4c],GU h4c h4 rfl⟩;intro i e p hi hp;rw [Array.getElem?_push] at hi;split at hi
     ·rename_i hie;injection hi with hi;subst hi;rw [hie,h2,zD (Nat.le_refl _),Nat.sub_self] at hp;simp at hp;subst hp;exact⟨hmm _ _ hk,hmm _ _ hz2⟩
     ·have hil:i<kvs.length:=by rw [←h2];exact (Array.getElem?_eq_some_iff.1 hi).1
      rw [zC hil] at hp;exact⟨hmm _ _ (h3 i e p hi hp).1,hmm _ _ (h3 i e p hi hp).2⟩
    ·simp [Instr.mapEntry,run_underlying hu,hg,hck,hfk,hset,hz1]
   | some i=>
    have hil:=(List.findIdx?_eq_some_iff_getElem.1 hidx);obtain⟨hlt',hceq,hfirst⟩:=hil;have hie:es[i]? =some (es[i]'(by omega)):=Array.getElem?_eq_getElem (by omega);have hfa:foundAt kvs k es.toList 0=some (i,(es[i]'(by omega)).val):=by
     simp [foundAt,hidx,hie]
    rw [hfa] at hfk;have hal:iy kvs k=some kvs[i].2:=by
     have hf:kvs.find? (fun p=>ku (ah k) (ah p.1))=some kvs[i]:=by
      rw [List.find?_eq_some_iff_getElem];exact⟨hceq,i,hlt',rfl,fun j hj=>by simpa using hfirst j hj⟩
     simp [iy,hf]
    have hap:Jb kvs k (kH (ax P et))=kvs:=by simp [Jb,hidx]
    have hpl:zq kvs k=i:=by simp [zq,hidx]
    rw [hal,hpl] at hR;obtain⟨ha,bs,hf,hc,hall⟩:=hks;obtain⟨hapk,hcp⟩:=hall kvs[i] (List.getElem_mem hlt');have hkp:=(h3 i _ kvs[i] hie (zB hlt')).1;have hvp:=(h3 i _ kvs[i] hie (zB hlt')).2;have hst:=yZ (P:=P) hf ha hapk hk hkp hcp hceq;have hbn:=h4 i _ hie;have hsame:aQ J (Own h J) w kvs[i].1 vk:=by
     have hh2: ∀ {x:AV} {u v:Value},aQ J (Own h J) w k u→aQ J (Own h J) w x v→dY (ax P kt) k→dY (ax P kt) x→nL bs (ah k) (ah x)→ku (ah k) (ah x)=true→aQ J (Own h J) w x u:=by
      intro x u v r1 r2 a1 a2 a3 a4;have:k=x:=Xc a1 a2 a3 a4;rw [←this];exact r1
     exact hh2 hk hkp ha hapk hcp hceq
    refine done (.map (es.modify i fun e=> { e with key:=vk }) clock) _ (.tuple #[(es[i]'(by omega)).val,goInt i]) ?_ hR ?_ ?_
    ·have:bX J (Own h J) w [kvs[i].2,.int .i64 (i:Int)] [(es[i]'(by omega)).val,goInt i]:=bX.cons hvp (bX.cons (.int _ _) .nil);exact .tup _ _ this.1 this.2
    ·intro O' w' hw' hmm;rw [hap];refine⟨_,_,hw',by simp [h2],?_,by simp [h4c],ul h4 (fun _=>rfl)⟩;intro j e p hj hp;rw [Array.getElem?_modify] at hj;by_cases hij:i=j
     ·subst hij;rw [if_pos rfl,hie] at hj;simp at hj;subst hj;rw [zB hlt'] at hp;injection hp with hp;subst hp;exact⟨hmm _ _ hsame,hmm _ _ hvp⟩
     ·rw [if_neg hij] at hj;exact⟨hmm _ _ (h3 j e p hj hp).1,hmm _ _ (h3 j e p hj hp).2⟩
    ·simp [Instr.mapEntry,run_underlying hu,hg,hck,hfk,hset,hie,hst,hbn]
 ·cases him
theorem zR (hh:dm gl h J w) {t:TypeId} {b i:Nat} {x:AV} {vm vx:Value} (hm:aQ J (Own h J) w (.map b) vm)(hx:aQ J (Own h J) w x vx)
  (him:isMap h b=true) (hi:i<(hmap h b).length) {R:ak→Prop} (hR:R (h.set b (.map (I8 (hmap h b) i x)))):CG P gl h J w (Instr.entryStore t vm (.int .i64 i) vx) R:=by
 unfold isMap at him;split at him
 ·rename_i kvs hb;have hkv:hmap h b=kvs:=by simp [hmap,hb]
  rw [hkv] at hi hR
  cases hm with
  | map _ kb hkb=>
   obtain⟨es,clock,h1,h2,h3,h4c,h4⟩:=hh.obj b kb _ hkb hb;have hg:(getObj kb.r).run P w= .ok (.map es clock) w:=mJ h1 (by intros;simp);have hlt:kb.r<w.heap.size:=hh.lt b kb hkb;have hset: ∀o:Obj,(setObj kb.r o).run P w= .ok () { w with heap:=w.heap.setIfInBounds kb.r o }:=by
    intro o;simp only [setObj,Sem.run,h1]
   obtain⟨p0,hp0⟩: ∃p0,kvs[i]? =some p0:=⟨_,zB hi⟩;obtain⟨hil,hie0⟩:=zA.1 hp0;have hae:I8 kvs i x=kvs.set i (p0.1,x):=by simp [I8,hp0]
   rw [hae] at hR;have hie:es[i]? =some (es[i]'(by omega)):=Array.getElem?_eq_getElem (by omega);have hfind:es.findIdx? (fun e=>(e.born:Int)==(i:Int))=some i:=by
    rw [Array.findIdx?_eq_some_iff_getElem];refine⟨by omega,?_,?_⟩
    ·have:=h4 i _ hie;simp [this]
    ·intro j hj;have hje:es[j]? =some (es[j]'(by omega)):=Array.getElem?_eq_getElem (by omega);have:=h4 j _ hje;simp [this];omega
   have hnew:({ w with heap:=w.heap.setIfInBounds kb.r (.map (es.modify i fun e=> { e with val:=vx }) clock) }:World).heap[kb.r]? =some (.map (es.modify i fun e=> { e with val:=vx }) clock):=by simp [hlt]
   obtain⟨r1,r2⟩:=hh.set (o':= .map kvs) (k:=kb) (w':= { w with heap:=w.heap.setIfInBounds kb.r (.map (es.modify i fun e=> { e with val:=vx }) clock) }) (.map (kvs.set i (p0.1,x))) hkb hb (by simp) (by simp) (fun r hr=>by simp [Array.getElem?_setIfInBounds_ne (Ne.symm hr)]) rfl rfl rfl (fun O' hmm=>by
    refine⟨_,_,hnew,by simp [h2],?_,by simp [h4c],ul h4 (fun _=>rfl)⟩;intro j e p hj hp;rw [Array.getElem?_modify] at hj;by_cases hij:i=j
    ·subst hij;rw [if_pos rfl,hie] at hj;simp at hj;subst hj;rw [zI hil] at hp;injection hp with hp;subst hp;exact⟨hmm _ _ (h3 i _ p0 hie hp0).1,hmm _ _ hx⟩
    ·rw [if_neg hij] at hj;rw [zJ hij] at hp;exact⟨hmm _ _ (h3 j e p hj hp).1,hmm _ _ (h3 j e p hj hp).2⟩)
   refine⟨_,J,_,?_,r1,r2,hR⟩;simp [Instr.entryStore,hg,asInt,asIntOf,hfind,hset]
 ·cases him
end
end Go.Abs
end
section
namespace Go.Abs
open Go
def rH (s:List UInt8)(pos:Nat):cZ:= .raw (.stringIter ⟨s.toArray⟩ pos)
def mV (s:List UInt8)(pos:Nat):Nat×Nat:=Utf8.decode ⟨s.toArray⟩ pos
theorem J3 {s:List UInt8} {pos:Nat} {c:UInt8} (h:s[pos]? =some c)(hc:c.toNat<128):mV s pos=(c.toNat,1):=by
 obtain⟨hp,hv⟩:=zA.1 h;have hs:pos<(ByteArray.mk s.toArray).size:=by simpa [ByteArray.size] using hp
 have he:(ByteArray.mk s.toArray)[pos]'hs=c:=by rw [←hv];rfl
 have:=decode_ascii ⟨s.toArray⟩ pos hs (by rw [he];exact hc);rw [he] at this;exact this
theorem Nk (s:ByteArray)(i:Nat)(h: ¬(s.get! i).toNat<128):128≤(Utf8.decode s i).1∧1≤(Utf8.decode s i).2:=by
 unfold Utf8.decode;simp only [Nat.add_zero];rw [if_neg h];have hr:128≤Utf8.runeError:=by decide
 split
 ·split
  ·rename_i h1;exact⟨h1,by omega⟩
  ·exact⟨hr,by omega⟩
 ·split
  ·split
   ·rename_i h1;simp only [ge_iff_le,Bool.and_eq_true,decide_eq_true_eq] at h1;exact⟨by omega,by omega⟩
   ·exact⟨hr,by omega⟩
  ·split
   ·split
    ·rename_i h1;simp only [ge_iff_le,Bool.and_eq_true,decide_eq_true_eq] at h1;exact⟨by omega,by omega⟩
    ·exact⟨hr,by omega⟩
   ·exact⟨hr,by omega⟩
theorem Om {s:List UInt8} {pos:Nat} {c:UInt8} (h:s[pos]? =some c)(hc: ¬c.toNat<128):128≤(mV s pos).1∧1≤(mV s pos).2:=by
 obtain⟨hp,hv⟩:=zA.1 h;refine Nk _ _ ?_;have:(ByteArray.mk s.toArray).get! pos=c:=by
  simp only [ByteArray.get!];rw [getElem!_pos s.toArray pos (by simpa using hp)];simpa using hv
 rw [this];exact hc
section
variable {P : Program} {gl : aR} {J : List eF} {h : ak} {w : World}
theorem LV (hh:dm gl h J w) {t:TypeId} {s:List UInt8} {v:Value} (hk:(ax P t).kind= .string)(hx:aQ J (Own h J) w (.str s) v) {R:AV→ak→Prop} (hR:R (.obj h.length) (h++[rH s 0])):
  j6 P gl h J w (Instr.range t v) R:=by
 obtain⟨d,hu,hd,_,_⟩:=iM hk (by simp);have hu':P.underlying t=some .string:=by cases d <;> simp [sW] at hd;exact hu
 cases hx
 obtain⟨r1,r2⟩:=hh.alloc (.stringIter ⟨s.toArray⟩ 0) ⟨w.heap.size,0,1,0⟩ (rH s 0) rfl (fun J' O' hm=>heap_alloc_new w _);exact⟨.pointer (some ⟨w.heap.size,0,none⟩),_,_,_,_,run_range_string w t _ hu',r1,.obj _ _ (ko hh _),r2,hR⟩
theorem BR (hh:dm gl h J w) {t kt et:TypeId} {b:Nat} {kvs:List (AV×AV)} {v:Value} (hk:(ax P t).kind= .map kt et)(hb:h[b]? =some (.map kvs))(hx:aQ J (Own h J) w (.map b) v) {R:AV→ak→Prop} (hR:R (.obj h.length) (h++[.iter b kvs.length []])):
  j6 P gl h J w (Instr.range t v) R:=by
 obtain⟨d,hu,hd,_,_⟩:=iM hk (by simp);have hu':P.underlying t=some (.map kt et):=by
  cases d <;> simp [sW] at hd
  obtain⟨rfl,rfl⟩:=hd;exact hu
 cases hx with
 | map _ k hkb=>
  obtain⟨es,clock,o1,o2,o3,o4,o5⟩:=hh.obj b k _ hkb hb;subst o4;obtain⟨r1,r2⟩:=hh.alloc (.mapIter (some k.r) es.size #[] es.size) ⟨w.heap.size,0,1,0⟩ (.iter b kvs.length []) rfl (fun J' O' hm=>by
   have h1:=hm (.map b) _ (.map b k hkb);generalize hv:Value.map (some k.r)=u at h1
   cases h1 with
   | map _ k' hk'=>
    injection hv with hv;injection hv with hv;exact⟨k',hk',by rw [←hv,←o2];exact heap_alloc_new w _⟩)
  exact⟨.pointer (some ⟨w.heap.size,0,none⟩),_,_,_,_,run_range_map w t kt et k.r es es.size hu' o1,r1,.obj _ _ (ko hh _),r2,hR⟩
theorem KP (hh:dm gl h J w) {it m i:Nat} {seen:List Nat} {kvs:List (AV×AV)} {p:AV×AV} {v:Value} (hi:h[it]? =some (.iter m kvs.length (seen++[i])))(hb:h[m]? =some (.map kvs))(hp:kvs[i]? =some p)(hx:aQ J (Own h J) w (.obj it) v) {R:AV→ak→Prop} (hR:R (.tup [p.1,p.2]) h):
  j6 P gl h J w (Instr.entry v) R:=by
 cases hx with
 | obj _ k hk=>
  obtain⟨k',hk',o1⟩:=hh.obj it k _ hk hi;obtain⟨es,clock,q1,q2,q3,q4,q5⟩:=hh.obj m k' _ hk' hb;subst q4;obtain⟨e,he,_⟩: ∃e,es[i]? =some e∧True:=⟨_,Array.getElem?_eq_getElem (by have:=(zA.1 hp).1;omega),trivial⟩;have hbn:=q5 i e he;have hnd:(es.toList.map (·.born)).Nodup:=by
   have e1:es.toList.map (·.born)=List.range es.size:=by
    refine List.ext_getElem? fun j=> ?_;rw [List.getElem?_map];rcases zN j es.size with hj | hj
    ·have h1:es[j]? =some es[j]:=Array.getElem?_eq_getElem hj;rw [Array.getElem?_toList,h1,Option.map_some,q5 j _ h1,List.getElem?_range hj]
    ·rw [Array.getElem?_toList,Array.getElem?_eq_none hj,List.getElem?_eq_none (by simpa using hj)];rfl
   rw [e1];exact List.nodup_range
  have o1':w.heap[k.r]? =some (.mapIter (some k'.r) es.size (seen.toArray.push e.born) es.size):=by
   rw [o1,hbn,←q2];simp
  have hrun:=run_entry_at (P:=P) w k.r k'.r es.size seen.toArray es es.size e o1' q1 (by simpa using Array.mem_of_getElem? he) hnd;obtain⟨r1,r2⟩:=q3 i e p he hp;exact⟨.tuple #[e.key,e.val],w,J,_,h,hrun,hh,.tup _ _ rfl (bX.cons r1 (bX.cons r2 .nil)).2,jE.refl _ _ _,hR⟩
theorem SX (hh:dm gl h J w) {it m:Nat} {seen:List Nat} {kvs:List (AV×AV)} {v:Value} {ty:TypeId} (hi:h[it]? =some (.iter m kvs.length seen))(hb:h[m]? =some (.map kvs))(hx:aQ J (Own h J) w (.obj it) v):
  (∃i p,kvs[i]? =some p∧i∉seen∧ ∃u w',(Instr.next v false ty).run P w= .ok u w'∧dm gl (h.set it (.iter m kvs.length (seen++[i]))) J w'∧aQ J (Own (h.set it (.iter m kvs.length (seen++[i]))) J) w' (.tup [.bool true,p.1,p.2]) u∧jE h J w (h.set it (.iter m kvs.length (seen++[i]))) J w')∨
  ((∀i,i<kvs.length→i∈seen)∧(Instr.next v false ty).run P w= .ok (.tuple #[.bool false]) w):=by
 cases hx with
 | obj _ k hk=>
  obtain⟨k',hk',o1⟩:=hh.obj it k _ hk hi;obtain⟨es,clock,q1,q2,q3,q4,q5⟩:=hh.obj m k' _ hk' hb;subst q4;rw [←q2] at o1;have hold: ∀x∈es.toList,x.born<es.size:=fun x hx=>by
   obtain⟨j,hj⟩:=List.getElem?_of_mem hx;rw [Array.getElem?_toList] at hj;rw [q5 j x hj];exact (Array.getElem?_eq_some_iff.1 hj).1
  rcases run_next_at (P:=P) w ty k.r k'.r es.size es.size seen.toArray es es.size o1 q1 hold (Nat.le_refl _) with⟨h0,hrun⟩ | ⟨e,he,w1,hal,hrun⟩
  ·right
   refine⟨fun i hi=> ?_,hrun⟩;have hei:es[i]? =some (es[i]'(by omega)):=Array.getElem?_eq_getElem _;have hemp:leftOf es seen.toArray= #[]:=Array.eq_empty_of_size_eq_zero h0;unfold leftOf at hemp;rw [Array.filter_eq_empty_iff] at hemp;have:=hemp _ (Array.mem_of_getElem? hei);rw [q5 i _ hei] at this;simpa using this
  ·left
   unfold leftOf at he;rw [Array.toList_filter,List.mem_filter] at he;obtain⟨hem,hes⟩:=he;obtain⟨i,hi'⟩:=List.getElem?_of_mem hem;rw [Array.getElem?_toList] at hi';have hil:=(Array.getElem?_eq_some_iff.1 hi').1;obtain⟨p,hp,_⟩: ∃p,kvs[i]? =some p∧True:=⟨_,zB (by omega),trivial⟩;have hbn:=q5 i e hi';rw [hbn] at hes hrun;have hnin:i∉seen:=by simpa using hes
   have h1:dm gl h J w1∧jE h J w h J w1:=by
    rcases hal with rfl | rfl
    ·exact⟨hh,jE.refl _ _ _⟩
    ·exact hh.drew
   obtain⟨hh1,ev1⟩:=h1;have hsz1:w1.heap=w.heap:=by rcases hal with rfl | rfl <;> rfl
   obtain⟨r1,r2⟩:=hh1.set (w':=Go.ChangeMaps.setBlock w1 k.r (.mapIter (some k'.r) es.size (seen.toArray.push i) es.size)) (.iter m kvs.length (seen++[i])) hk hi (by simp) (by simp [Go.ChangeMaps.setBlock])
    (fun r hr=>by simp [Go.ChangeMaps.setBlock,Array.getElem?_setIfInBounds,Ne.symm hr]) rfl rfl rfl
    (fun O' hm=>⟨k',hk',by
     show (w1.heap.setIfInBounds k.r _)[k.r]? =_;rw [Array.getElem?_setIfInBounds_self_of_lt (hh1.lt it k hk),←q2];simp⟩)
   obtain⟨v1,v2⟩:=q3 i e p hi' hp;refine⟨i,p,hp,hnin,_,_,hrun,r1,?_,ev1.trans r2⟩;exact .tup _ _ rfl (bX.cons (.bool true) (bX.cons ((v1.evo ev1).evo r2) (bX.cons ((v2.evo ev1).evo r2) .nil))).2
theorem Ei (hh:dm gl h J w) {b:Nat} {s:List UInt8} {pos:Nat} {v:Value} {ty:TypeId} (hb:h[b]? =some (rH s pos))(hx:aQ J (Own h J) w (.obj b) v) {R:AV→ak→Prop}
  (hR1:pos<s.length→R (.tup [.bool true,.int .i64 pos,.int .i32 (mV s pos).1]) (h.set b (rH s (pos+(mV s pos).2)))) (hR2: ¬pos<s.length→R (.tup [.bool false]) h):
  j6 P gl h J w (Instr.next v true ty) R:=by
 cases hx with
 | obj _ k hk=>
  have ho:w.heap[k.r]? =some (.stringIter ⟨s.toArray⟩ pos):=hh.obj b k _ hk hb;have hsz:(ByteArray.mk s.toArray).size=s.length:=by simp [ByteArray.size]
  by_cases hp:pos<s.length
  ·obtain⟨r1,r2⟩:=hh.set (w':= { w with heap:=w.heap.setIfInBounds k.r (.stringIter ⟨s.toArray⟩ (pos+(mV s pos).2)) }) (rH s (pos+(mV s pos).2)) hk hb (by simp [rH]) (by simp)
    (fun r hr=>by simp [Array.getElem?_setIfInBounds,Ne.symm hr]) rfl rfl rfl
    (fun O' hm=>by
     show (w.heap.setIfInBounds k.r _)[k.r]? =_;rw [Array.getElem?_setIfInBounds_self_of_lt (hh.lt b k hk)])
   refine⟨.tuple #[.bool true,.int .i64 pos,.int .i32 (mV s pos).1],_,_,_,_,?_,r1,?_,r2,hR1 hp⟩
   ·simp [Instr.next,getObj,setObj,Sem.run,ho,hsz,hp,mV,goInt]
   ·exact .tup _ _ rfl (bX.cons (.bool true) (bX.cons (.int .i64 _) (bX.cons (.int .i32 _) .nil))).2
  ·refine⟨.tuple #[.bool false],w,J,_,h,?_,hh,.tup _ _ rfl (bX.cons (.bool false) .nil).2,jE.refl _ _ _,hR2 hp⟩;simp [Instr.next,getObj,Sem.run,ho,hsz,hp]
end
end Go.Abs
end
end
section
section
namespace Go.Abs
open Go
section
variable {P : Program} {gl : aR} {J : List eF} {h : ak} {w : World} {fr : aP} {N : Nat} {ops : Array Oper}
def agd (ops:Array Oper)(fr:aP)(o:Oper):Option Bool:=match o.guard with
 | none=>some true
 | some (j,want)=>match (ops[j]?).bind (·.dst) with
  | some d=>match fr d with
   | .bool b=>some (b==want)
   | .opt g x=>(match x with
    | .bool b=>some (g && (b==want))
    | _=>if g=false then some false else none)
   | _=>none
  | none=>some false
theorem Hd {a:Act} {d:Nat} {v:Value} (h:a.tmps.getD d undef=v)(hv:v≠undef):a.tmps[d]? =some v:=by
 rw [Array.getD_eq_getD_getElem?] at h
 cases hh:a.tmps[d]? with
 | none=>rw [hh] at h;exact absurd h.symm hv
 | some u=>rw [hh] at h;simp at h;rw [h]
def UX (ops:Array Oper)(o:Oper):List Tmp:=match o.guard with
 | none=>[]
 | some (j,_)=>match (ops[j]?).bind (·.dst) with
  | some d=>[d]
  | none=>[]
def looks (ops:Array Oper)(o:Oper):List Tmp:=(o.op.operands.toList.filterMap fun x=>match x with | .tmp t=>some t | _=>none)++UX ops o
theorem kG {O:Nat→Prop} {o:Oper} {G:Bool} {a:Act} (hr: ∀t∈UX ops o,aQ J O w (fr t) (a.tmps.getD t undef))(hg:agd ops fr o=some G):Region.wanted o (yielded ops a.tmps)=G:=by
 unfold agd at hg;unfold Region.wanted;split at hg
 ·rename_i hgd;injection hg with hg;simp [hgd,hg]
 ·rename_i j want hgd;simp only [hgd];unfold yielded;split at hg
  ·rename_i d hd;have hr':=hr d (by simp [UX,hgd,hd]);rw [hd];simp only [Option.bind_some];split at hg
   ·rename_i b hb;rw [hb] at hr';generalize hv:a.tmps.getD d undef=v at hr';cases hr'
    rw [Hd hv (by simp [undef])];simpa using hg
   ·rename_i g x hb;rw [hb] at hr';generalize hv:a.tmps.getD d undef=v at hr'
    cases hr' with
    | opt _ _ _ h1 h0=>
     cases g with
     | true=>
      split at hg
      ·have h1':=h1 rfl;cases h1'
       rw [Hd hv (by simp [undef])];simpa using hg
      ·simp at hg
     | false=>
      have h0':=h0 rfl;have hG:G=false:=by
       split at hg
       ·simpa using hg
       ·simpa using hg
      subst hG;rw [Array.getD_eq_getD_getElem?] at hv
      cases hh:a.tmps[d]? with
      | none=>simp
      | some u=>
       rw [hh] at hv;simp at hv;subst hv;rw [h0'];simp [undef]
   ·cases hg
  ·rename_i hd;rw [hd];injection hg
theorem JF {o:Oper} {t:Tmp} (h:Operand.tmp t∈o.op.operands):t∈looks ops o:=
 List.mem_append.2 (.inl (List.mem_filterMap.2 ⟨.tmp t,by simpa using h,rfl⟩))
theorem jm {o:Oper} {t:Tmp} (h:t∈UX ops o):t∈looks ops o:=List.mem_append.2 (.inr h)
def bG (P:Program)(gl:aR)(N:Nat)(ops:Array Oper)(o:Oper)(fr:aP)(h:ak)(x:AV)(h':ak):Prop:=
 ∀(J:List eF) (a:Act) (w:World) (Q:Exit→Act→World→Prop),dm gl h J w→(∀t∈looks ops o,aQ J (Own h J) w (fr t) (a.tmps.getD t undef))→
  (Region.wanted o (yielded ops a.tmps)=true→o.wp P a w (fun a' w'=> ∃v J',a'=a.put o.dst v∧dm gl h' J' w'∧aQ J' (Own h' J') w' x v∧jE h J w h' J' w') Q)∧
  (Region.wanted o (yielded ops a.tmps)=false→h'=h∧aQ J (Own h J) w x undef)
def tN:Option (Nat×Bool)→Bool→AV→AV
 | none,_,x=>x
 | some _,g,x=> .opt g x
theorem xU {O:Nat→Prop} {g:Option (Nat×Bool)} {x:AV} {v:Value} (h:aQ J O w x v):aQ J O w (tN g true x) v:=by
 cases g with
 | none=>exact h
 | some p=>exact .opt true x v (fun _=>h) (by simp)
theorem jD {O:Nat→Prop} {g:Option (Nat×Bool)} {x:AV} (hg:g≠none):aQ J O w (tN g false x) undef:=by
 cases g with
 | none=>exact absurd rfl hg
 | some p=>exact .opt false x undef (by simp) (fun _=>rfl)
theorem x8 {o:Oper} (h:agd ops fr o=some false):o.guard≠none:=by
 intro hg;simp [agd,hg] at h
theorem AR {O:Nat→Prop} (hh:dm gl h J w) {o:Oper} {a:Act} (hr: ∀t∈looks ops o,aQ J (Own h J) w (fr t) (a.tmps.getD t undef)): ∀x∈o.op.operands,aQ J (Own h J) w (ev gl fr x) (a.eval x):=
 fun x hx=>qN hh fun t ht=>hr t (JF (by rw [←ht];exact hx))
theorem bG.value {o:Oper} {G:Bool} (hg:agd ops fr o=some G)(hok:G=true→Vy P gl fr h o.op):bG P gl N ops o fr h (tN o.guard G (Gy P gl fr h o.op)) h:=by
 intro J a w Q hh hr;have hw:=kG (fun t ht=>hr t (jm ht)) hg;rw [hw];refine⟨?_,?_⟩
 ·rintro rfl;obtain⟨v,h1,h2⟩:=RI (P:=P) hh (AR (O:=Own h J) hh hr) (hok rfl);unfold Oper.wp;rw [h1];exact⟨v,J,rfl,hh,xU h2,jE.refl _ _ _⟩
 ·rintro rfl;exact⟨rfl,jD (x8 hg)⟩
theorem bG.steps1 {o:Oper} {x:AV} {h':ak} (hg:agd ops fr o=some true)
  (hs: ∀(J:List eF) (a:Act) (w:World),dm gl h J w→(∀y∈o.op.operands,aQ J (Own h J) w (ev gl fr y) (a.eval y))→ ∃s:Sem Value,(execOp a.eval o).run P w=(s.run P w).andThen (fun v w'=> .ok (.value v) w')∧j6 P gl h J w s (fun x' h''=>x'=x∧h''=h')):
  bG P gl N ops o fr h x h':=by
 intro J a w Q hh hr;have hw:=kG (fun t ht=>hr t (jm ht)) hg;rw [hw];refine⟨fun _=> ?_,by simp⟩;obtain⟨s,e,v,w',J',x',h'',h1,h2,h3,h4,h5,h6⟩:=hs J a w hh (AR (O:=Own h J) hh hr);subst h5;subst h6
 unfold Oper.wp;rw [e,h1];exact⟨v,J',rfl,h2,h3,h4⟩
theorem bG.steps0 {o:Oper} {h':ak} (hg:agd ops fr o=some true)
  (hs: ∀(J:List eF) (a:Act) (w:World),dm gl h J w→(∀y∈o.op.operands,aQ J (Own h J) w (ev gl fr y) (a.eval y))→ ∃s:Sem Unit,(execOp a.eval o).run P w=(s.run P w).andThen (fun _ w'=> .ok .skip w')∧CG P gl h J w s (fun h''=>h''=h')):
  bG P gl N ops o fr h .junk h':=by
 intro J a w Q hh hr;have hw:=kG (fun t ht=>hr t (jm ht)) hg;rw [hw];refine⟨fun _=> ?_,by simp⟩;obtain⟨s,e,w',J',h'',h1,h2,h3,h4⟩:=hs J a w hh (AR (O:=Own h J) hh hr);subst h4;unfold Oper.wp;rw [e,h1];exact⟨undef,J',rfl,h2,.junk _,h3⟩
theorem bG.idle {o:Oper} (hg:agd ops fr o=some false):bG P gl N ops o fr h .junk h:=by
 intro J a w Q hh hr;have hw:=kG (fun t ht=>hr t (jm ht)) hg;rw [hw];exact⟨by simp,fun _=>⟨rfl,.junk _⟩⟩
theorem bG.call {o:Oper} {G:Bool} {x:AV} {f:Operand} {args:Array Operand} {ats:Array TypeId} {fn:FuncId} {first caps:List AV} (ho:o.op= .call { callee:= .value f,args,argTypes:=ats })(hg:agd ops fr o=some G)
  (hf:G=true→(ev gl fr f).gd=true∧(ev gl fr f).core= .fn (.func fn) first caps) (ha:G=true→ ∀y∈args.toList,(ev gl fr y).gd=true)
  (hc:G=true→af P gl fn (first++args.toList.map (fun y=>(ev gl fr y).core)++caps) h (fun x' h'=>x'=x∧h'=h)):
  bG P gl N ops o fr h (tN o.guard G x) h:=by
 intro J a w Q hh hr;have hw:=kG (fun t ht=>hr t (jm ht)) hg;rw [hw];refine⟨?_,?_⟩
 ·rintro rfl;have hev:=AR (O:=Own h J) hh hr;obtain⟨hf1,hf2⟩:=hf rfl;have hop:o.op.operands= #[f]++args:=by rw [ho];rfl
  have rf:=(hev f (by rw [hop];simp)).core hf1;rw [hf2] at rf;have rargs:=ol (a:=a) (J:=J) (O:=Own h J) (w:=w) (gl:=gl) (fr:=fr) args.toList (fun y hy=>hev y (by rw [hop];simpa using Or.inr hy)) (ha rfl);obtain⟨⟨fd,hfd,hbody,hname⟩,hcalls⟩:=hc rfl;generalize hfv:a.eval f=vf at rf
  cases rf with
  | fn _ _ _ vfs vcs l1 l2 r1 r2=>
   have hvs:bX J (Own h J) w (first++args.toList.map (fun y=>(ev gl fr y).core)++caps) (vfs++args.toList.map a.eval++vcs):=bX.append (bX.append ⟨l1,r1⟩ rargs) ⟨l2,r2⟩;have hrun:(execOp a.eval o).run P w= .ok (.enter fn (vfs++args.toList.map a.eval++vcs).toArray) w:=by
    unfold execOp;rw [ho];simp only [resolve,hfv,Deferred.ofValue,Sem.run_bind,Sem.run_pure,Result.andThen_ok,invoke,callFunc,run_program,hfd,hname,Bool.false_eq_true,if_false];have hb2:fd.body.isNone=false:=by cases hbb:fd.body with | none=>simp [hbb] at hbody | some c=>rfl
    simp only [hb2,Bool.false_eq_true,if_false,Sem.run_pure];congr 2
    apply Array.ext';simp
   unfold Oper.wp;rw [hrun];simp only [Oper.upon];refine Calls.mono' (hcalls J w _ hh hvs) ?_;rintro e w' ⟨x',v,J',h',rfl,q1,q2,q3,rfl,rfl⟩;exact⟨v,J',rfl,q1,xU q2,q3⟩
 ·rintro rfl;exact⟨rfl,jD (x8 hg)⟩
end
end Go.Abs
end
section
namespace Go.Abs
open Go
def A8:Op→Bool
 | .box .. | .alloc .. | .store .. | .buildSlice .. | .makeSlice .. | .makeMap .. | .mapUpdate .. | .insert .. | .range .. | .next .. | .mapEntry .. | .entryStore .. | .entry .. =>true
 | _=>false
def Jy:Builtin→Bool
 | .append | .copy=>true
 | _=>false
section
variable {P : Program} {gl : aR} {J : List eF} {h : ak} {w : World} {fr : aP} {N : Nat} {ops : Array Oper}
def aax:AV→Option (Nat×Nat×Nat)
 | .ptr b i c=>some (b,i,c)
 | _=>none
def OG (P:Program)(h:ak)(t:TypeId)(a x:AV)(c:AV→ak→Prop):Prop:=match a with
 | .ptr b i o=>x.solid=true∧(ax P t).ok=true∧(ah x).length=(ax P t).cells∧i<(hcells h b).length∧o+(ax P t).cells≤((hcells h b).getD i []).length∧c .junk (hput h b i o (ah x))
 | _=>False
def zg (P:Program)(h:ak)(t:TypeId)(m k x:AV)(c:AV→ak→Prop):Prop:=match (ax P t).kind,m with
 | .map kt _,.map b=>isMap h b=true∧bC P kt k (hmap h b)∧c .junk (h.set b (.map (w9 (hmap h b) k x)))
 | _,_=>False
def Nn (P:Program)(h:ak)(t:TypeId)(m k:AV)(c:AV→ak→Prop):Prop:=match (ax P t).kind,m with
 | .map kt et,.map b=>isMap h b=true∧mZ (ax P et)∧bC P kt k (hmap h b)∧c (.tup [(iy (hmap h b) k).getD (kH (ax P et)),.int .i64 (zq (hmap h b) k)]) (h.set b (.map (Jb (hmap h b) k (kH (ax P et)))))
 | _,_=>False
def uD (h:ak)(m s x:AV)(c:AV→ak→Prop):Prop:=match m,s with
 | .map b,.int .i64 n=>isMap h b=true∧0≤n∧n<(hmap h b).length∧c .junk (h.set b (.map (I8 (hmap h b) n.toNat x)))
 | _,_=>False
def Eb (h:ak)(k:TK)(c:AV→ak→Prop):Prop:=match k with
 | .map _ _=>c (.map h.length) (h++[.map []])
 | _=>False
def N9 (k:TK)(x:AV)(h:ak)(c:AV→ak→Prop):Prop:=match k,x with
 | .string,.str s=>c (.obj h.length) (h++[rH s 0])
 | .map _ _,.map b=>isMap h b=true∧c (.obj h.length) (h++[.iter b (hmap h b).length []])
 | _,_=>False
def SV (h:ak)(x:AV)(isS:Bool)(c:AV→ak→Prop):Prop:=match isS,x with
 | true,.obj b=> ∃s pos,h[b]? =some (rH s pos)∧(pos<s.length→c (.tup [.bool true,.int .i64 pos,.int .i32 (mV s pos).1]) (h.set b (rH s (pos+(mV s pos).2))))∧(¬pos<s.length→c (.tup [.bool false]) h)
 | _,_=>False
def WU (h:ak)(x:AV)(c:AV→ak→Prop):Prop:=match x with
 | .obj it=> ∃m seen i kvs p,h[it]? =some (.iter m kvs.length (seen++[i]))∧h[m]? =some (.map kvs)∧kvs[i]? =some p∧c (.tup [p.1,p.2]) h
 | _=>False
def Ee (h:ak)(x:AV)(c:AV→ak→Prop):Prop:=match x with
 | .obj it=> ∃m seen kvs,h[it]? =some (.iter m kvs.length seen)∧h[m]? =some (.map kvs)∧
  (∀i p,kvs[i]? =some p→i∉seen→c (.tup [.bool true,p.1,p.2]) (h.set it (.iter m kvs.length (seen++[i]))))∧((∀i,i<kvs.length→i∈seen)→c (.tup [.bool false]) h)
 | _=>False
def SG:Op→Bool
 | .next _ false=>true
 | _=>false
def Qr (P:Program)(gl:aR)(fr:aP)(h:ak)(c:AV→ak→Prop):Op→Prop
 | .box _ x=>(ev gl fr x).gd=true∧(ev gl fr x).core.solid=true∧0<(ah (ev gl fr x).core).length∧c (.ptr h.length 0 0) (h++[.cells (ah (ev gl fr x).core).length [ah (ev gl fr x).core]])
 | .alloc t=>(ax P t).ok=true∧(ax P t).zok=true∧0<(ax P t).zero.length∧c (.ptr h.length 0 0) (h++[.cells (ax P t).zero.length [(ax P t).zero]])
 | .store t a x=>(ev gl fr a).gd=true∧(ev gl fr x).gd=true∧OG P h t (ev gl fr a).core (ev gl fr x).core c
 | .buildSlice t len parts=>(∀p∈parts.toList,(ev gl fr p.2).gd=true)∧nI P t len (parts.toList.map fun p=>(p.1,(ev gl fr p.2).core))∧
  c (.own h.length 0 len) (h++[.cells (dL P t) ((parts.toList.map fun p=>(p.1,(ev gl fr p.2).core)).map fun p=>ah p.2)])
 | .makeSlice t l k=>(ev gl fr l).gd=true∧(ev gl fr k).gd=true∧pU P t (ev gl fr l).core (ev gl fr k).core∧
  c (.own h.length 0 (jv (ev gl fr l).core).toNat) (h++[.cells (dL P t) (List.replicate (jv (ev gl fr l).core).toNat (qJ P t))])
 | .makeMap t r=>xy (r.map (ev gl fr))∧Eb h (ax P t).kind c
 | .mapUpdate t m k x=>(ev gl fr m).gd=true∧(ev gl fr k).gd=true∧(ev gl fr x).gd=true∧zg P h t (ev gl fr m).core (ev gl fr k).core (ev gl fr x).core c
 | .insert t m k x=>(ev gl fr m).gd=true∧(ev gl fr k).gd=true∧(ev gl fr x).gd=true∧zg P h t (ev gl fr m).core (ev gl fr k).core (ev gl fr x).core c
 | .mapEntry t m k=>(ev gl fr m).gd=true∧(ev gl fr k).gd=true∧Nn P h t (ev gl fr m).core (ev gl fr k).core c
 | .entryStore _ m s x=>(ev gl fr m).gd=true∧(ev gl fr s).gd=true∧(ev gl fr x).gd=true∧uD h (ev gl fr m).core (ev gl fr s).core (ev gl fr x).core c
 | .range t x=>(ev gl fr x).gd=true∧N9 (ax P t).kind (ev gl fr x).core h c
 | .next it isS=>(ev gl fr it).gd=true∧SV h (ev gl fr it).core isS c
 | .entry it=>(ev gl fr it).gd=true∧WU h (ev gl fr it).core c
 | _=>False
def Pb (P:Program)(h:ak)(ts:List TypeId)(c:AV→ak→Prop)(b:Builtin)(xs:List AV):Prop:=match b,xs with
 | .append,[s,x]=>ae P h ts s x∧ai (dL P (ts.headD 0)) h s x c
 | .copy,[s,x]=>uB P h ts s x∧uA (dL P (ts.headD 0)) h s x c
 | _,_=>False
theorem Kz {n:Nat} {s x:AV} {c:AV→ak→Prop} (hk:ai n h s x c): ∃y h',c y h'∧ai n h s x (fun y' h''=>y'=y∧h''=h'):=by
 unfold ai at hk ⊢;split at hk
 ·by_cases he:aelems h x=[]
  ·exact⟨_,_,hk.1 he,fun _=>⟨rfl,rfl⟩,fun h=>absurd he h⟩
  ·exact⟨_,_,hk.2 he,fun h=>absurd h he,fun _=>⟨rfl,rfl⟩⟩
 ·by_cases he:aelems h x=[]
  ·exact⟨_,_,hk.1 he,fun _=>⟨rfl,rfl⟩,fun h=>absurd he h⟩
  ·exact⟨_,_,hk.2 he,fun h=>absurd h he,fun _=>⟨rfl,rfl⟩⟩
 ·exact⟨_,_,hk,rfl,rfl⟩
 ·exact hk.elim
set_option maxHeartbeats 1000000 in
theorem bG.eff {o:Oper} (hg:agd ops fr o=some true) {c:AV→ak→Prop} (he:Qr P gl fr h c o.op): ∃x h',c x h'∧bG P gl N ops o fr h x h':=by
 cases hop:o.op <;> simp only [hop,Qr] at he
 case box t x=>
  obtain⟨h1,h2,h3,h4⟩:=he;refine⟨_,_,h4,bG.steps1 hg fun J a w hh hr=>⟨_,by unfold execOp;rw [hop];simp only [Sem.run_bind,Sem.run_pure];rfl,?_⟩⟩;exact Qi hh ((hr x (by rw [hop];simp [Op.operands])).core h1) h2 h3 ⟨rfl,rfl⟩
 case alloc t=>
  obtain⟨h1,h2,h3,h4⟩:=he;refine⟨_,_,h4,bG.steps1 hg fun J a w hh hr=>⟨_,by unfold execOp;rw [hop];simp only [Sem.run_bind,Sem.run_pure];rfl,?_⟩⟩;exact Kw hh h1 h2 h3 ⟨rfl,rfl⟩
 case store t p x=>
  obtain⟨h1,h2,h3⟩:=he;unfold OG at h3;split at h3
  ·rename_i b i o' hp;obtain⟨q1,q2,q3,q4,q5,q6⟩:=h3;refine⟨_,_,q6,bG.steps0 hg fun J a w hh hr=>⟨_,by unfold execOp;rw [hop];simp only [Sem.run_bind,Sem.run_pure];rfl,?_⟩⟩;have rp:=(hr p (by rw [hop];simp [Op.operands])).core h1;rw [hp] at rp;exact Mv hh q2 rp ((hr x (by rw [hop];simp [Op.operands])).core h2) q1 q3 q4 q5 rfl
  ·exact h3.elim
 case buildSlice t len parts=>
  obtain⟨h1,h2,h3⟩:=he;refine⟨.own h.length 0 len,h++[.cells (dL P t) ((parts.toList.map fun p=>(p.1,(ev gl fr p.2).core)).map fun p=>ah p.2)],h3,?_⟩;refine bG.steps1 hg ?_;intro J a w hh hr;refine⟨Instr.buildSlice t len (parts.map fun (i,x)=>(i,a.eval x)),by unfold execOp;rw [hop];simp only [Sem.run_bind,Sem.run_pure],?_⟩;have hm: ∀p∈parts.toList,aQ J (Own h J) w (ev gl fr p.2) (a.eval p.2):=fun p hp=>hr p.2 (by
   rw [hop];simp only [Op.operands,List.mem_toArray];exact List.mem_map.2 ⟨p,hp,rfl⟩)
  have:=Ah (a:=a) (J:=J) (O:=Own h J) (w:=w) parts.toList hm h1;refine zw (ps:=parts.toList.map fun p=>(p.1,(ev gl fr p.2).core)) (qs:=parts.map fun (i,x)=>(i,a.eval x)) hh ?_ h2 ?_
  ·simpa using this
  ·exact⟨rfl,rfl⟩
 case makeSlice t l k=>
  obtain⟨h1,h2,h3,h4⟩:=he;refine⟨.own h.length 0 (jv (ev gl fr l).core).toNat,h++[.cells (dL P t) (List.replicate (jv (ev gl fr l).core).toNat (qJ P t))],h4,?_⟩;refine bG.steps1 hg ?_;intro J a w hh hr;refine⟨Instr.makeSlice t (a.eval l) (a.eval k),by unfold execOp;rw [hop];simp only [Sem.run_bind,Sem.run_pure],?_⟩;exact BN hh ((hr l (by rw [hop];simp [Op.operands])).core h1) ((hr k (by rw [hop];simp [Op.operands])).core h2) h3 ⟨rfl,rfl⟩
 case makeMap t r=>
  obtain⟨h1,h2⟩:=he;unfold Eb at h2;split at h2
  ·rename_i kt et hk;refine⟨_,_,h2,bG.steps1 hg fun J a w hh hr=>⟨_,by unfold execOp;rw [hop];simp only [Sem.run_bind,Sem.run_pure];rfl,?_⟩⟩;refine Gg hh hk ?_ ⟨rfl,rfl⟩;intro v hv
   cases r with
   | none=>simp at hv
   | some y=>
    simp only [Option.map_some,Option.mem_def,Option.some.injEq] at hv;subst hv;simp only [Option.map_some,xy] at h1;obtain⟨k,hk⟩:=xx ((hr y (by rw [hop];simp [Op.operands])).core h1.1) h1.2;exact⟨k,_,hk⟩
  ·exact h2.elim
 case mapUpdate t m k x=>
  obtain⟨h1,h2,h3,h4⟩:=he;unfold zg at h4;split at h4
  ·rename_i kt et b hk hm;obtain⟨q1,q2,q3⟩:=h4;refine⟨_,_,q3,bG.steps0 hg fun J a w hh hr=>⟨_,by unfold execOp;rw [hop];simp only [Sem.run_bind,Sem.run_pure];rfl,?_⟩⟩;have rm:=(hr m (by rw [hop];simp [Op.operands])).core h1;rw [hm] at rm;exact tK hh hk rm ((hr k (by rw [hop];simp [Op.operands])).core h2) ((hr x (by rw [hop];simp [Op.operands])).core h3) q1 q2 rfl
  ·exact h4.elim
 case insert t m k x=>
  obtain⟨h1,h2,h3,h4⟩:=he;unfold zg at h4;split at h4
  ·rename_i kt et b hk hm;obtain⟨q1,q2,q3⟩:=h4;refine⟨_,_,q3,bG.steps0 hg fun J a w hh hr=>⟨_,by unfold execOp;rw [hop];simp only [Sem.run_bind,Sem.run_pure];rfl,?_⟩⟩;have rm:=(hr m (by rw [hop];simp [Op.operands])).core h1;rw [hm] at rm;exact tK hh hk rm ((hr k (by rw [hop];simp [Op.operands])).core h2) ((hr x (by rw [hop];simp [Op.operands])).core h3) q1 q2 rfl
  ·exact h4.elim
 case mapEntry t m k=>
  obtain⟨h1,h2,h4⟩:=he;unfold Nn at h4;split at h4
  ·rename_i kt et b hk hm;obtain⟨q1,q0,q2,q3⟩:=h4;refine⟨_,_,q3,bG.steps1 hg fun J a w hh hr=>⟨_,by unfold execOp;rw [hop];simp only [Sem.run_bind,Sem.run_pure];rfl,?_⟩⟩;have rm:=(hr m (by rw [hop];simp [Op.operands])).core h1;rw [hm] at rm;exact Ec hh hk q0 rm ((hr k (by rw [hop];simp [Op.operands])).core h2) q1 q2 ⟨rfl,rfl⟩
  ·exact h4.elim
 case entryStore t m s x=>
  obtain⟨h1,h2,h3,h4⟩:=he;unfold uD at h4;split at h4
  ·rename_i b n hm hs;obtain⟨q1,q2,q3,q4⟩:=h4;refine⟨_,_,q4,bG.steps0 hg fun J a w hh hr=>⟨_,by unfold execOp;rw [hop];simp only [Sem.run_bind,Sem.run_pure];rfl,?_⟩⟩;have rm:=(hr m (by rw [hop];simp [Op.operands])).core h1;have rs:=(hr s (by rw [hop];simp [Op.operands])).core h2;rw [hm] at rm;rw [hs] at rs;obtain⟨i,rfl⟩:=Int.eq_ofNat_of_zero_le q2;generalize a.eval s=vs at rs;cases rs
   exact zR hh rm ((hr x (by rw [hop];simp [Op.operands])).core h3) q1 (by omega) rfl
  ·exact h4.elim
 case range t x=>
  obtain⟨h1,h2⟩:=he;unfold N9 at h2;split at h2
  ·rename_i s hk hx;refine⟨_,_,h2,bG.steps1 hg fun J a w hh hr=>⟨_,by unfold execOp;rw [hop];simp only [Sem.run_bind,Sem.run_pure];rfl,?_⟩⟩;have rx:=(hr x (by rw [hop];simp [Op.operands])).core h1;rw [hx] at rx;exact LV hh hk rx ⟨rfl,rfl⟩
  ·rename_i kt et b hk hx;obtain⟨hm,h3⟩:=h2;unfold isMap at hm;split at hm
   ·rename_i kvs hb;simp only [hmap,hb] at h3;refine⟨_,_,h3,bG.steps1 hg fun J a w hh hr=>⟨_,by unfold execOp;rw [hop];simp only [Sem.run_bind,Sem.run_pure];rfl,?_⟩⟩;have rx:=(hr x (by rw [hop];simp [Op.operands])).core h1;rw [hx] at rx;exact BR hh hk hb rx ⟨rfl,rfl⟩
   ·cases hm
  ·exact h2.elim
 case entry it=>
  obtain⟨h1,h2⟩:=he;unfold WU at h2;split at h2
  ·rename_i b hx;obtain⟨m,seen,i,kvs,p,p1,p2,p3,p4⟩:=h2;refine⟨_,_,p4,bG.steps1 hg fun J a w hh hr=>⟨_,by unfold execOp;rw [hop];simp only [Sem.run_bind,Sem.run_pure];rfl,?_⟩⟩;have rx:=(hr it (by rw [hop];simp [Op.operands])).core h1;rw [hx] at rx;exact KP hh p1 p2 p3 rx ⟨rfl,rfl⟩
  ·exact h2.elim
 case next it isS=>
  obtain⟨h1,h2⟩:=he;unfold SV at h2;split at h2
  ·rename_i b hx;obtain⟨s,pos,hb,h3,h4⟩:=h2;by_cases hp:pos<s.length
   ·refine⟨_,_,h3 hp,bG.steps1 hg fun J a w hh hr=>⟨_,by unfold execOp;rw [hop];simp only [Sem.run_bind,Sem.run_pure];rfl,?_⟩⟩;have rx:=(hr it (by rw [hop];simp [Op.operands])).core h1;rw [hx] at rx;exact Ei hh hb rx (fun _=>⟨rfl,rfl⟩) (fun hn=>absurd hp hn)
   ·refine⟨_,_,h4 hp,bG.steps1 hg fun J a w hh hr=>⟨_,by unfold execOp;rw [hop];simp only [Sem.run_bind,Sem.run_pure];rfl,?_⟩⟩;have rx:=(hr it (by rw [hop];simp [Op.operands])).core h1;rw [hx] at rx;exact Ei hh hb rx (fun hn=>absurd hn hp) (fun _=>⟨rfl,rfl⟩)
  ·exact h2.elim
theorem Qo {n:Nat} {s x:AV} {c:AV→ak→Prop} (hk:uA n h s x c): ∃y h',c y h'∧uA n h s x (fun y' h''=>y'=y∧h''=h'):=by
 unfold uA at hk ⊢;split at hk
 ·exact⟨_,_,hk,rfl,rfl⟩
 ·exact hk.elim
theorem bG.effB {o:Oper} {b:Builtin} {args:Array Operand} {ats:Array TypeId} (ho:o.op= .call { callee:= .builtin b,args,argTypes:=ats })(hg:agd ops fr o=some true)(hgd: ∀y∈args.toList,(ev gl fr y).gd=true)
  {c:AV→ak→Prop} (he:Pb P h ats.toList c b (args.toList.map fun y=>(ev gl fr y).core)): ∃x h',c x h'∧bG P gl N ops o fr h x h':=by
 unfold Pb at he;split at he
 ·rename_i s x hxs;obtain⟨hok,hk⟩:=he;obtain⟨y,h',hc,hk'⟩:=Kz hk;refine⟨y,h',hc,?_⟩
  match hargs:args.toList,hxs with
  | [s0,x0],hxs=>
   simp only [List.map_cons,List.map_nil,List.cons.injEq,and_true] at hxs;obtain⟨e1,e2⟩:=hxs;have hargs':args= #[s0,x0]:=by rw [←Array.toArray_toList (xs:=args),hargs]
   refine bG.steps1 hg fun J a w hh hr=>⟨Builtin.append_ ats o.type #[a.eval s0,a.eval x0],by unfold execOp;rw [ho];subst hargs';simp only [resolve,invoke,builtin,Sem.run_bind,Sem.run_pure,Result.andThen_ok,List.map_toArray,List.map_cons,List.map_nil],?_⟩;have hop:o.op.operands=args:=by rw [ho];simp [Op.operands,Call.operands]
   have r1:=(hr s0 (by rw [hop,hargs'];simp)).core (hgd s0 (by rw [hargs];simp));have r2:=(hr x0 (by rw [hop,hargs'];simp)).core (hgd x0 (by rw [hargs];simp));rw [e1] at r1;rw [e2] at r2;have:=Ja (P:=P) (ty:=o.type) hh r1 r2 hok hk';rwa [Array.toArray_toList] at this
 ·rename_i s x hxs;obtain⟨hok,hk⟩:=he;obtain⟨y,h',hc,hk'⟩:=Qo hk;refine⟨y,h',hc,?_⟩
  match hargs:args.toList,hxs with
  | [s0,x0],hxs=>
   simp only [List.map_cons,List.map_nil,List.cons.injEq,and_true] at hxs;obtain⟨e1,e2⟩:=hxs;have hargs':args= #[s0,x0]:=by rw [←Array.toArray_toList (xs:=args),hargs]
   refine bG.steps1 hg fun J a w hh hr=>⟨Builtin.copy_ ats o.type #[a.eval s0,a.eval x0],by unfold execOp;rw [ho];subst hargs';simp only [resolve,invoke,builtin,Sem.run_bind,Sem.run_pure,Result.andThen_ok,List.map_toArray,List.map_cons,List.map_nil],?_⟩;have hop:o.op.operands=args:=by rw [ho];simp [Op.operands,Call.operands]
   have r1:=(hr s0 (by rw [hop,hargs'];simp)).core (hgd s0 (by rw [hargs];simp));have r2:=(hr x0 (by rw [hop,hargs'];simp)).core (hgd x0 (by rw [hargs];simp));rw [e1] at r1;rw [e2] at r2;have:=Nf (P:=P) (ty:=o.type) hh r1 r2 hok hk';rwa [Array.toArray_toList] at this
 ·exact he.elim
theorem bG.valB {o:Oper} {b:Builtin} {args:Array Operand} {ats:Array TypeId} {G:Bool} (ho:o.op= .call { callee:= .builtin b,args,argTypes:=ats })(hg:agd ops fr o=some G)(hgd:G=true→ ∀y∈args.toList,(ev gl fr y).gd=true)
  (hok:G=true→qH P h b ats.toList (args.toList.map fun y=>(ev gl fr y).core)):bG P gl N ops o fr h (tN o.guard G (yl h b (args.toList.map fun y=>(ev gl fr y).core))) h:=by
 intro J a w Q hh hr;have hw:=kG (fun t ht=>hr t (jm ht)) hg;rw [hw];refine⟨?_,?_⟩
 ·rintro rfl;have hev:=AR (O:=Own h J) hh hr;have hop:o.op.operands=args:=by rw [ho];simp [Op.operands,Call.operands]
  have rargs:=ol (a:=a) (J:=J) (O:=Own h J) (w:=w) (gl:=gl) (fr:=fr) args.toList (fun y hy=>hev y (by rw [hop];simpa using hy)) (hgd rfl);obtain⟨v,h1,h2⟩:=C8 (P:=P) (ty:=o.type) (cs:=args.map fun | .const _=>true | _=>false) hh rargs (hok rfl);have hrun:(execOp a.eval o).run P w= .ok (.value v) w:=by
   unfold execOp;rw [ho];simp only [resolve,Sem.run_bind,Sem.run_pure,Result.andThen_ok,invoke];have e1:args.map a.eval=(args.toList.map a.eval).toArray:=by rw [←Array.toList_map,Array.toArray_toList]
   rw [e1];rwa [Array.toArray_toList] at h1
  unfold Oper.wp;rw [hrun];exact⟨v,J,rfl,hh,xU h2,jE.refl _ _ _⟩
 ·rintro rfl;exact⟨rfl,jD (x8 hg)⟩
end
end Go.Abs
end
section
namespace Go.Abs
open Go
def I6 (P:Program)(gl:aR)(f:AV)(args:List AV)(h:ak)(R:AV→ak→Prop):Prop:=match f with
 | .fn (.func fn) first caps=>af P gl fn (first++args++caps) h R
 | _=>False
def ay (P:Program)(gl:aR)(q:Bool)(g:Option (Nat×Bool))(G:Bool)(f:AV)(args:List AV)(h:ak)(c:AV→ak→Prop):Prop:=
 (∃r,(G=true→I6 P gl f args h (fun x h'=>x=r∧h'=h))∧c (tN g G r) h)∨
 (q=false∧(G=true→I6 P gl f args h c)∧(G=false→c .junk h))
def QT (k:TK)(x y:AV)(c:Bool→Prop):Prop:=match k,x,y with
 | .slice _,.ro es,.nil=> ∀b:Bool,(es≠[]→b=false)→c b
 | _,_,_=>False
theorem Ej {P:Program} {J:List eF} {O:Nat→Prop} {w:World} {t:TypeId} {X Y:Operand} {x y:AV} {u v:Value} (hx:aQ J O w x u)(hy:aQ J O w y v) {c:Bool→Prop} (hok:QT (ax P t).kind x y c):
  ∃b,c b∧(do eqGuard .eql t X Y u v;binOp .eql t u v).run P w= .ok (.bool b) w∧(do eqGuard .neq t X Y u v;binOp .neq t u v).run P w= .ok (.bool !b) w:=by
 unfold QT at hok;split at hok
 ·rename_i e es hk;have hu:=(dF hk).1;cases hy
  simp only [eqGuard_at_slice,Sem.run_bind,Sem.run_pure,Result.andThen_ok]
  cases hx with
  | roNil=>
   have:=ig (P:=P) w t (none,0,0) (none,0,0) true (fun d=>by simp only [Op.equalIn,Sem.run_bind,run_underlying hu,Result.andThen_ok];rfl);exact⟨true,hok true (by simp),this.1,this.2⟩
  | ro es a n cap f=>
   have:=ig (P:=P) w t (some a,es.length,cap) (none,0,0) false (fun d=>by simp only [Op.equalIn,Sem.run_bind,run_underlying hu,Result.andThen_ok];rfl);exact⟨false,hok false (by simp),this.1,this.2⟩
 ·exact hok.elim
def jQ (b:UInt8):List AV:=[.int .u8 (b.toNat:Int)]
def NF:AV→Bool
 | .str _=>true
 | _=>false
def O6 (P:Program)(src dst:TypeId)(h:ak)(x:AV)(c:AV→Prop):Prop:=match (ax P src).kind,(ax P dst).kind with
 | .slice e,.string=>(ax P src).ok=true∧(ax P e).kind= .int .u8∧NF x=false∧slOk h x∧ ∃s:List UInt8,aelems h x=s.map jQ∧c (.str s)
 | _,_=>False
theorem pO: ∀(s:List UInt8) (r:ByteArray),(s.map fun b=>(b.toNat:Int)).foldl (fun r n=>r.push (UInt8.ofNat n.toNat)) r=⟨r.data++s.toArray⟩
 | [],r=>by simp
 | b::s,r=>by
  rw [List.map_cons,List.foldl_cons,pO s];simp [ByteArray.push]
theorem KM {P:Program} {gl:aR} {J:List eF} {h:ak} {w:World} (hh:dm gl h J w) {src dst:TypeId} {x:AV} {u:Value} (hx:aQ J (Own h J) w x u) {c:AV→Prop} (hok:O6 P src dst h x c):
  ∃s:List UInt8,c (.str s)∧(convert src dst u).run P w= .ok (.string ⟨s.toArray⟩) w:=by
 unfold O6 at hok;split at hok
 ·rename_i e hk hd;obtain⟨_,hek,hns,hsl,s,hs,hc⟩:=hok;obtain⟨hu,_⟩:=dF hk;obtain⟨d,hud,hdd,_,_⟩:=iM hd (by simp);have hud':P.underlying dst=some .string:=by cases d <;> simp [sW] at hdd;exact hud
  obtain⟨d2,hue,hdd2,_,_⟩:=iM hek (by simp);have hue':P.underlying e=some (.int .u8):=by cases d2 <;> simp [sW] at hdd2;subst hdd2;exact hue
  obtain⟨us,n1,n2,n3,n4,n5⟩:=kI (P:=P) (size:=1) hh (by omega) hx hsl (by rw [hs];intro y hy;obtain⟨b,_,rfl⟩:=List.mem_map.1 hy;rfl);have hus:us=(s.map fun b=>(b.toNat:Int)).map (Value.int .u8):=by
   refine List.ext_getElem? fun i=> ?_;rcases zN i s.length with hlt | hge
   ·obtain⟨v,p1,p2⟩:=n5 i (jQ s[i]) 0 (.int .u8 (s[i].toNat:Int)) (by rw [hs,List.getElem?_map,zB hlt];rfl) rfl;rw [Nat.mul_one,Nat.add_zero] at p1;cases p2
    rw [p1];simp [hlt]
   ·rw [List.getElem?_eq_none (by rw [n3,hs];simpa using hge),List.getElem?_eq_none (by simpa using hge)]
  have hlen:(aelems h x).length=s.length:=by rw [hs];simp
  refine⟨s,hc,?_⟩;have key: ∀(a:Option Addr) (l cp:Nat),u= .slice a l cp→(convert src dst u).run P w= .ok (.string ⟨s.toArray⟩) w:=by
   rintro a l cp rfl;have hl:l=s.length:=by
    rw [hlen] at n1;simpa [Builtin.lenOf] using n1
   subst hl;rw [run_convert_bytes_string w src dst e a _ cp hu hue' hud']
   cases a with
   | none=>
    have h0:s=[]:=by
     rw [hlen,hus] at n2;simp [Builtin.firstCells] at n2;simpa using n2.symm
    subst h0;simp [Conv.bytesToString];rfl
   | some a=>
    rw [hlen,hus] at n2;rw [run_bytesToString w a _ cp (s.map fun b=>(b.toNat:Int)) (by simpa [Builtin.firstCells] using n2),pO];simp [ByteArray.empty,ByteArray.emptyWithCapacity];rfl
  cases hx <;> first | exact key _ _ _ rfl | (simp [slOk] at hsl;done) | (simp [NF] at hns;done)
 ·exact hok.elim
def UQ (N:Nat):Option Tmp→Bool
 | none=>true
 | some d=>d<N
def OY (gl:aR)(fr:aP)(l:List Operand):Prop:= ∀y∈l,(ev gl fr y).gd=true
def Sm:Value→Bool
 | .slice none 0 0=>true
 | _=>false
def ND:Operand→Bool
 | .const v=>Sm v
 | _=>false
def VV:Op→Bool
 | .binOp o _ _ y _=>match o with
  | .eql=>ND y
  | .neq=>ND y
  | _=>false
 | .convert .. =>true
 | _=>false
def JI (P:Program)(gl:aR)(fr:aP)(h:ak)(c:AV→ak→Prop):Op→Prop
 | .binOp o t x y _=>match o with
  | .eql=>(ev gl fr x).gd=true∧(ev gl fr y).gd=true∧QT (ax P t).kind (ev gl fr x).core (ev gl fr y).core fun b=>c (.bool b) h
  | .neq=>(ev gl fr x).gd=true∧(ev gl fr y).gd=true∧QT (ax P t).kind (ev gl fr x).core (ev gl fr y).core fun b=>c (.bool !b) h
  | _=>False
 | .convert src dst x=>(ev gl fr x).gd=true∧O6 P src dst h (ev gl fr x).core fun y=>c y h
 | _=>False
def Va (gl:aR)(fr:aP)(h:ak)(c:AV→ak→Prop):Op→Prop
 | .next it false=>(ev gl fr it).gd=true∧Ee h (ev gl fr it).core c
 | _=>False
def DW (P:Program)(gl:aR)(q:Bool)(fr:aP)(h:ak)(g:Option (Nat×Bool))(G:Bool)(c:AV→ak→Prop)(op:Op):Prop:=match op with
 | .call k=>match k.callee with
  | .value f=>(G=true→(ev gl fr f).gd=true∧OY gl fr k.args.toList)∧ay P gl q g G (ev gl fr f).core (k.args.toList.map fun y=>(ev gl fr y).core) h c
  | .builtin b=>match Jy b with
   | true=>(G=true→OY gl fr k.args.toList∧Pb P h k.argTypes.toList c b (k.args.toList.map fun y=>(ev gl fr y).core))∧(G=false→c .junk h)
   | false=>(G=true→OY gl fr k.args.toList∧qH P h b k.argTypes.toList (k.args.toList.map fun y=>(ev gl fr y).core))∧c (tN g G (yl h b (k.args.toList.map fun y=>(ev gl fr y).core))) h
  | .invoke _ _=>False
 | op=>match A8 op with
  | true=>match SG op && !q with
   | true=>((G=true→Qr P gl fr h c op)∧(G=false→c .junk h))∨(g=none∧G=true∧Va gl fr h c op)
   | false=>(G=true→Qr P gl fr h c op)∧(G=false→c .junk h)
  | false=>match VV op && !q with
   | true=>((G=true→Vy P gl fr h op)∧c (tN g G (Gy P gl fr h op)) h)∨(g=none∧G=true∧JI P gl fr h c op)
   | false=>(G=true→Vy P gl fr h op)∧c (tN g G (Gy P gl fr h op)) h
def AP (k:aP→ak→Prop)(fr:aP)(d:Option Tmp)(x:AV)(h:ak):Prop:=k (gB fr d x) h
def wG (P:Program)(gl:aR)(N:Nat)(q:Bool)(ops:Array Oper)(o:Oper)(fr:aP)(h:ak)(k:aP→ak→Prop):Prop:=match agd ops fr o with
 | none=>False
 | some G=>UQ N o.dst=true∧DW P gl q fr h o.guard G (AP k fr o.dst) o.op
def iL (P:Program)(gl:aR)(N:Nat)(q:Bool)(ops:Array Oper):List Oper→(aP→ak→Prop)→aP→ak→Prop
 | [],K,fr,h=>K fr h
 | o::l,K,fr,h=>wG P gl N q ops o fr h (iL P gl N q ops l K)
section
variable {P : Program} {gl : aR} {J : List eF} {h : ak} {w : World} {fr : aP} {N : Nat} {ops : Array Oper}
def gU:Op→Bool
 | .move _ | .assign _ | .pick .. | .build .. | .nilCheck _ | .binOp .. | .unOp .. | .convert .. | .makeInterface .. | .makeFunc .. | .fieldAddr .. | .field .. | .index .. | .extract .. =>true
 | _=>false
def bW:Op→Bool
 | .call { callee:= .builtin b,.. }=>Jy b
 | .call _=>false
 | op=>A8 op
theorem vI {o:Oper} {k:aP→ak→Prop} (hs:wG P gl N true ops o fr h k):
  ∃x h',(∀d,o.dst=some d→d<N)∧bG P gl N ops o fr h x h'∧(gU o.op=true→ ∀h0,bG P gl N ops o fr h0 x h0)∧(bW o.op=false→h'=h)∧k (gB fr o.dst x) h':=by
 unfold wG at hs;split at hs
 ·exact hs.elim
 ·rename_i G hg;obtain⟨hd,hs⟩:=hs;have hd': ∀d,o.dst=some d→d<N:=by
   intro d he;rw [he] at hd;simpa [UQ] using hd
  by_cases hcall: ∃c,o.op= .call c
  ·obtain⟨c,hop⟩:=hcall;obtain⟨callee,args,ats⟩:=c;rw [hop] at hs;simp only [DW] at hs
   cases callee with
   | invoke r m=>exact hs.elim
   | value f=>
    simp only at hs;obtain⟨hgd,hc⟩:=hs;rcases hc with⟨r,h1,h2⟩ | ⟨h0,_⟩
    ·refine⟨_,h,hd',?_,by simp [hop,gU],fun _=>rfl,h2⟩
     cases G with
     | true=>
      have h1':=h1 rfl;unfold I6 at h1';split at h1'
      ·rename_i fn first caps hf
       exact bG.call hop hg (fun _=>⟨(hgd rfl).1,hf⟩) (fun _=>(hgd rfl).2) (fun _=>h1')
      ·exact h1'.elim
     | false=>
      intro J a w Q hh hr;have hw:=kG (fun t ht=>hr t (jm ht)) hg;rw [hw];exact⟨by simp,fun _=>⟨rfl,jD (x8 hg)⟩⟩
    ·cases h0
   | builtin b=>
    simp only at hs
    cases hb:Jy b with
    | true=>
     rw [hb] at hs;obtain⟨h1,h2⟩:=hs
     cases G with
     | true=>
      obtain⟨g1,g2⟩:=h1 rfl;obtain⟨x,h',p1,p2⟩:=bG.effB (N:=N) hop hg g1 g2;exact⟨x,h',hd',p2,by simp [hop,gU],by simp [hop,bW,hb],p1⟩
     | false=>exact⟨.junk,h,hd',bG.idle hg,by simp [hop,gU],fun _=>rfl,h2 rfl⟩
    | false=>
     rw [hb] at hs;obtain⟨h1,h2⟩:=hs;exact⟨_,h,hd',bG.valB hop hg (fun e=>(h1 e).1) (fun e=>(h1 e).2),by simp [hop,gU],fun _=>rfl,h2⟩
  ·have hgs:DW P gl true fr h o.guard G (AP k fr o.dst) o.op=(match A8 o.op with
     | true=>(G=true→Qr P gl fr h (AP k fr o.dst) o.op)∧(G=false→AP k fr o.dst .junk h)
     | false=>(G=true→Vy P gl fr h o.op)∧AP k fr o.dst (tN o.guard G (Gy P gl fr h o.op)) h):=by
    unfold DW;split
    ·rename_i c hc;exact absurd ⟨c,hc⟩ hcall
    ·cases A8 o.op <;> simp
   rw [hgs] at hs;have hact:bW o.op=A8 o.op:=by
    unfold bW;split
    ·rename_i hc;exact absurd ⟨_,hc⟩ hcall
    ·rename_i hc;exact absurd ⟨_,hc⟩ hcall
    ·rfl
   cases hb:A8 o.op with
   | true=>
    rw [hb] at hs;obtain⟨h1,h2⟩:=hs;have hfree:gU o.op=false:=by cases hop:o.op <;> simp [hop,A8] at hb <;> rfl
    cases G with
    | true=>
     obtain⟨x,h',p1,p2⟩:=bG.eff (N:=N) hg (h1 rfl);exact⟨x,h',hd',p2,by simp [hfree],by simp [hact,hb],p1⟩
    | false=>exact⟨.junk,h,hd',bG.idle hg,by simp [hfree],fun _=>rfl,h2 rfl⟩
   | false=>
    rw [hb] at hs;obtain⟨h1,h2⟩:=hs;refine⟨_,h,hd',bG.value hg h1,?_,fun _=>rfl,h2⟩;intro hf h0;have e1:Gy P gl fr h o.op=Gy P gl fr h0 o.op:=by
     cases hop:o.op <;> simp [hop,gU] at hf <;> simp only [Gy]
    have e2:G=true→Vy P gl fr h0 o.op:=by
     intro hG;have:=h1 hG;cases hop:o.op <;> simp [hop,gU] at hf <;> rw [hop] at this <;> simpa only [Vy] using this
    rw [e1];exact bG.value hg e2
end
end Go.Abs
end
section
namespace Go.Abs
open Go
section
variable {P : Program} {gl : aR} {J : List eF} {h : ak} {w : World} {fr : aP} {N : Nat} {ops : Array Oper}
def Cz (K:aP→ak→Prop):dN
 | .normal,fr,h=>K fr h
 | _,_,_=>False
def FL (P:Program)(ops:Array Oper)(Q:Exit→Act→World→Prop):List Oper→Act→World→Prop
 | [],a,w=>Q .normal a w
 | o::l,a,w=>if Region.wanted o (yielded ops a.tmps) then o.wp P a w (FL P ops Q l) Q else FL P ops Q l (a.put o.dst undef) w
theorem zi {Q:Exit→Act→World→Prop}: ∀(l:List Oper) (i:Nat) (a:Act) (w:World),(∀j,l[j]? =ops[i+j]?)→FL P ops Q l a w→wpOps P ops Q (List.range' i l.length) a w
 | [],i,a,w,_,hw=>by simpa [wpOps,FL] using hw
 | o::l,i,a,w,hl,hw=>by
  have h0:ops[i]? =some o:=by simpa using (hl 0).symm
  have hrest: ∀a w,FL P ops Q l a w→wpOps P ops Q (List.range' (i+1) l.length) a w:=fun a w=>zi l (i+1) a w (fun j=>by have:=hl (j+1);simpa [Nat.add_assoc,Nat.add_comm 1 j] using this);simp only [List.length_cons,List.range'_succ,wpOps,h0];simp only [FL] at hw;split
  ·rename_i hwt;rw [if_pos hwt] at hw;exact .inl (Oper.wp_mono hrest hw)
  ·rename_i hwt;rw [if_neg hwt] at hw;exact hrest _ _ hw
theorem Dt {J':List eF} {h':ak} {w':World} (ev:jE h J w h' J' w') {a:Act} (r:qB gl N J fr h a w)(hh':dm gl h' J' w') {dst:Option Tmp} {x:AV} {v:Value} (hd: ∀d,dst=some d→d<N)(hv:aQ J' (Own h' J') w' x v):
  qB gl N J' (gB fr dst x) h' (a.put dst v) w':=
 qB.put (J:=J') (h:=h') ⟨r.size,r.defers,fun t=>(r.tmps t).evo ev,hh'⟩ hd hv
theorem CS {K:aP→ak→Prop}: ∀(l:List Oper) (fr:aP) (h:ak),iL P gl N false ops l K fr h→ ∀(J:List eF) (a:Act) (w:World),qB gl N J fr h a w→FL P ops (lift gl N h J w (Cz K)) l a w
 | [],fr,h,hs,J,a,w,r=>⟨J,fr,h,r,jE.refl _ _ _,hs⟩
 | o::l,fr,h,hs,J,a,w,r=>by
  have tail: ∀(x:AV) (h':ak) (J':List eF) (v:Value) (w':World),(∀d,o.dst=some d→d<N)→dm gl h' J' w'→aQ J' (Own h' J') w' x v→jE h J w h' J' w'→iL P gl N false ops l K (gB fr o.dst x) h'→
    FL P ops (lift gl N h J w (Cz K)) l (a.put o.dst v) w':=by
   intro x h' J' v w' hd h1 h2 h3 h4;have:=CS l _ _ h4 J' _ _ (Dt h3 r h1 hd h2);have mono: ∀(l:List Oper) (a:Act) (w0:World),FL P ops (lift gl N h' J' w' (Cz K)) l a w0→FL P ops (lift gl N h J w (Cz K)) l a w0:=by
    intro l
    induction l with
    | nil=>intro a w0 hw;exact oK h3 hw
    | cons o l ih=>
     intro a w0 hw;simp only [FL] at hw ⊢;split
     ·rename_i hwt;rw [if_pos hwt] at hw;have:o.wp P a w0 (FL P ops (lift gl N h J w (Cz K)) l) (lift gl N h' J' w' (Cz K)):=Oper.wp_mono ih hw;unfold Oper.wp at this ⊢;generalize (execOp a.eval o).run P w0=res at this ⊢
      cases res with
      | ok nx w1=>
       cases nx <;> simp only [Oper.upon] at this ⊢ <;> try exact this
       refine Calls.mono' this ?_;intro e w2 he;cases e <;> first | exact he | exact oK h3 he | (obtain⟨a',w',q⟩:=he;exact⟨a',w',oK h3 q⟩)
      | halt x w1=>cases x <;> simp only [Oper.upon] at this ⊢ <;> first | exact this | exact oK h3 this
     ·rename_i hwt;rw [if_neg hwt] at hw;exact ih _ _ hw
   exact mono _ _ _ this
  simp only [iL] at hs;by_cases hq:wG P gl N true ops o fr h (iL P gl N false ops l K)
  ·obtain⟨x,h',hd,hst,_,_,hk⟩:=vI hq;obtain⟨s1,s2⟩:=hst J a w (lift gl N h J w (Cz K)) r.heap (fun t _=>r.tmps t);simp only [FL];split
   ·rename_i hwt;refine Oper.wp_mono ?_ (s1 hwt);rintro a' w' ⟨v,J',rfl,q1,q2,q3⟩;exact tail x h' J' v w' hd q1 q2 q3 hk
   ·rename_i hwt;obtain⟨rfl,q2⟩:=s2 (by simpa using hwt);exact tail x h' J undef w hd r.heap q2 (jE.refl _ _ _) hk
  ·
   unfold wG at hs hq;split at hs
   ·exact hs.elim
   ·rename_i G hg;rw [hg] at hq;simp only at hq;obtain⟨hdb,hs⟩:=hs;have hd: ∀d,o.dst=some d→d<N:=by
     intro d he;rw [he] at hdb;simpa [UQ] using hdb
    have hw:=kG (fun t _=>r.tmps t) hg;by_cases hcall: ∃f args ats,o.op= .call { callee:= .value f,args,argTypes:=ats }
    ·obtain⟨f,args,ats,hop⟩:=hcall;rw [hop] at hs hq;simp only [DW] at hs hq;obtain⟨hgd,hc⟩:=hs;rcases hc with hc | ⟨_,hc1,hc2⟩
     ·exact absurd ⟨hdb,hgd,.inl hc⟩ hq
     ·simp only [FL];split
      ·rename_i hwt;rw [hw] at hwt;subst hwt;have hc1':=hc1 rfl;unfold I6 at hc1';split at hc1'
       ·rename_i fn first caps hf
        obtain⟨hgf,hga⟩:=hgd rfl;have hev:=AR (O:=Own h J) r.heap (fun t (_:t∈looks ops o)=>r.tmps t);have hopp:o.op.operands= #[f]++args:=by rw [hop];rfl
        have rf:=(hev f (by rw [hopp];simp)).core hgf;rw [hf] at rf;have rargs:=ol (a:=a) (J:=J) (O:=Own h J) (w:=w) (gl:=gl) (fr:=fr) args.toList (fun y hy=>hev y (by rw [hopp];simpa using Or.inr hy)) hga;obtain⟨⟨fd,hfd,hbody,hname⟩,hcalls⟩:=hc1';generalize hfv:a.eval f=vf at rf
        cases rf with
        | fn _ _ _ vfs vcs l1 l2 r1 r2=>
         have hvs:=bX.append (bX.append ⟨l1,r1⟩ rargs) ⟨l2,r2⟩;have hrun:(execOp a.eval o).run P w= .ok (.enter fn (vfs++args.toList.map a.eval++vcs).toArray) w:=by
          unfold execOp;rw [hop];simp only [resolve,hfv,Deferred.ofValue,Sem.run_bind,Sem.run_pure,Result.andThen_ok,invoke,callFunc,run_program,hfd,hname,Bool.false_eq_true,if_false];have hb2:fd.body.isNone=false:=by cases hbb:fd.body with | none=>simp [hbb] at hbody | some c=>rfl
          simp only [hb2,Bool.false_eq_true,if_false,Sem.run_pure];congr 2
          apply Array.ext';simp
         unfold Oper.wp;rw [hrun];simp only [Oper.upon];refine Calls.mono' (hcalls J w _ r.heap hvs) ?_;rintro e w' ⟨x',v,J',h',rfl,q1,q2,q3,q4⟩;exact tail x' h' J' v w' hd q1 q2 q3 q4
       ·exact hc1'.elim
      ·rename_i hwt;rw [hw] at hwt;have hG:G=false:=by simpa using hwt
       exact tail .junk h J undef w hd r.heap (.junk _) (jE.refl _ _ _) (hc2 hG)
    by_cases hmap:o.guard=none∧G=true∧Va gl fr h (AP (iL P gl N false ops l K) fr o.dst) o.op
    ·obtain⟨hgn,hG,hmap⟩:=hmap;subst hG;simp only [FL];rw [hw,if_pos rfl];have hev:=AR (O:=Own h J) r.heap (fun t (_:t∈looks ops o)=>r.tmps t);unfold Va at hmap;split at hmap
     ·rename_i o' it hop;obtain⟨gi,hm⟩:=hmap;unfold Ee at hm;split at hm
      ·rename_i b hx;obtain⟨m,seen,kvs,p1,p2,p3,p4⟩:=hm;have rx:=(hev it (by rw [hop];simp [Op.operands])).core gi;rw [hx] at rx;rcases SX (P:=P) (ty:=o.type) r.heap p1 p2 rx with⟨i,p,e1,e2,u,w',e3,e4,e5,e6⟩ | ⟨e1,e2⟩
       ·have hxx:(execOp a.eval o).run P w= .ok (.value u) w':=by
         unfold execOp;rw [hop];simp only [Sem.run_bind,e3];rfl
        unfold Oper.wp;rw [hxx];exact tail _ _ J u w' hd e4 e5 e6 (p3 i p e1 e2)
       ·have hxx:(execOp a.eval o).run P w= .ok (.value (.tuple #[.bool false])) w:=by
         unfold execOp;rw [hop];simp only [Sem.run_bind,e2];rfl
        unfold Oper.wp;rw [hxx];exact tail _ h J _ w hd r.heap (.tup _ _ rfl (bX.cons (.bool false) .nil).2) (jE.refl _ _ _) (p4 e1)
      ·exact hm.elim
     ·exact hmap.elim
    by_cases hnil:o.guard=none∧G=true∧JI P gl fr h (AP (iL P gl N false ops l K) fr o.dst) o.op
    ·obtain⟨hgn,hG,hnil⟩:=hnil;subst hG;simp only [FL];rw [hw,if_pos rfl];have hev:=AR (O:=Own h J) r.heap (fun t (_:t∈looks ops o)=>r.tmps t);unfold JI at hnil;split at hnil
     ·rename_i o' t x y ty hop;have hopp:o.op.operands= #[x,y]:=by rw [hop];rfl
      split at hnil
      ·obtain⟨gx,gy,hok⟩:=hnil;obtain⟨b,hc,hrun,_⟩:=Ej (X:=x) (Y:=y) ((hev x (by rw [hopp];simp)).core gx) ((hev y (by rw [hopp];simp)).core gy) hok;have hx:(execOp a.eval o).run P w= .ok (.value (.bool b)) w:=by
        unfold execOp;rw [hop];simp only [Sem.run_bind] at hrun ⊢;simp [hrun]
       unfold Oper.wp;rw [hx];exact tail (.bool b) h J (.bool b) w hd r.heap (.bool b) (jE.refl _ _ _) hc
      ·obtain⟨gx,gy,hok⟩:=hnil;obtain⟨b,hc,_,hrun⟩:=Ej (X:=x) (Y:=y) ((hev x (by rw [hopp];simp)).core gx) ((hev y (by rw [hopp];simp)).core gy) hok;have hx:(execOp a.eval o).run P w= .ok (.value (.bool !b)) w:=by
        unfold execOp;rw [hop];simp only [Sem.run_bind] at hrun ⊢;simp [hrun]
       unfold Oper.wp;rw [hx];exact tail (.bool !b) h J (.bool !b) w hd r.heap (.bool _) (jE.refl _ _ _) hc
      ·exact hnil.elim
     ·rename_i o' src dst x hop;have hopp:o.op.operands= #[x]:=by rw [hop];rfl
      obtain⟨gx,hok⟩:=hnil;obtain⟨s,hc,hrun⟩:=KM (P:=P) r.heap ((hev x (by rw [hopp];simp)).core gx) hok;have hx:(execOp a.eval o).run P w= .ok (.value (.string ⟨s.toArray⟩)) w:=by
       unfold execOp;rw [hop];simp [hrun]
      unfold Oper.wp;rw [hx];exact tail (.str s) h J (.string ⟨s.toArray⟩) w hd r.heap (.str s) (jE.refl _ _ _) hc
     ·exact hnil.elim
    ·
     refine absurd ⟨hdb,?_⟩ hq;unfold DW at hs ⊢;split at hs
     ·rename_i k hk;obtain⟨callee,args,ats⟩:=k
      cases callee with
      | value f=>exact absurd ⟨f,args,ats,hk⟩ hcall
      | builtin b=>exact hs
      | invoke r m=>exact hs
     ·split at hs
      ·simp only [Bool.not_true,Bool.and_false];split at hs
       ·rcases hs with hs | ⟨h1,h2,h3⟩
        ·exact hs
        ·exact absurd ⟨h1,h2,h3⟩ hmap
       ·exact hs
      ·simp only [Bool.not_true,Bool.and_false];split at hs
       ·rcases hs with hs | ⟨h1,h2,h3⟩
        ·exact hs
        ·exact absurd ⟨h1,h2,h3⟩ hnil
       ·exact hs
theorem aW.region {id:Nat} {Q:dN} (hs:iL P gl N false ops ops.toList (Q .normal) fr h):aW P gl N (.region id ops false) Q fr h:=by
 intro J a w r;have:=CS ops.toList fr h hs J a w r;have h2:=zi ops.toList 0 a w (by simp) this;rw [Array.length_toList,←List.range_eq_range'] at h2;refine wp_mono (wp_region h2) ?_;rintro e a' w' ⟨J',fr',h',q1,q2,q3⟩
 cases e with
 | normal=>exact⟨J',fr',h',q1,q2,q3⟩
 | _=>exact q3.elim
end
end Go.Abs
end
section
namespace Go.Abs
open Go
section
variable {P : Program} {gl : aR} {J : List eF} {h : ak} {w : World} {fr : aP} {N : Nat} {ops : Array Oper}
inductive qx (ops:Array Oper):Nat→Nat→Prop
 | base (i j:Nat) (o:Oper) (e:Edge) (ho:ops[j]? =some o) (he:e∈o.after) (hb:Region.binds .any e=true) (hon:e.on=i):qx ops i j
 | trans (i k j:Nat) (h1:qx ops i k) (h2:qx ops k j):qx ops i j
def Ef (acc:List Nat):List Edge→Nat
 | []=>0
 | e::l=>(if Region.binds .any e then (1<<<e.on) ||| acc.getD e.on 0 else 0) ||| Ef acc l
def masks:List Oper→List Nat→List Nat
 | [],acc=>acc
 | o::l,acc=>masks l (acc++[Ef acc o.after.toList])
theorem yG {acc:List Nat} {j:Nat} {o:Oper} (ho:ops[j]? =some o)(hacc: ∀k m,acc[k]? =some m→ ∀i,m.testBit i=true→qx ops i k):
  ∀(l:List Edge),(∀e∈l,e∈o.after)→ ∀i,(Ef acc l).testBit i=true→qx ops i j
 | [],_,i,h=>by simp [Ef] at h
 | e::l,hl,i,h=>by
  simp only [Ef,Nat.testBit_or,Bool.or_eq_true] at h;rcases h with h | h
  ·split at h
   ·rename_i hb;simp only [Nat.testBit_or,Bool.or_eq_true] at h;rcases h with h | h
    ·have:i=e.on:=by
      rw [Nat.one_shiftLeft,Nat.testBit_two_pow] at h;simpa [eq_comm] using h
     exact .base i j o e ho (hl e (by simp)) hb this.symm
    ·cases hx:acc[e.on]? with
     | none=>simp [List.getD,hx] at h
     | some m=>
      simp [List.getD,hx] at h;exact .trans i e.on j (hacc _ _ hx i h) (.base e.on j o e ho (hl e (by simp)) hb rfl)
   ·simp at h
  ·exact yG ho hacc l (fun e' he'=>hl e' (by simp [he'])) i h
theorem uR: ∀(l:List Oper) (acc:List Nat),(∀j,l[j]? =ops[acc.length+j]?)→(∀k m,acc[k]? =some m→ ∀i,m.testBit i=true→qx ops i k)→
  ∀k m,(masks l acc)[k]? =some m→ ∀i,m.testBit i=true→qx ops i k
 | [],acc,_,hacc=>hacc
 | o::l,acc,hl,hacc=>by
  refine uR l _ ?_ ?_
  ·intro j;have:=hl (j+1);simp only [List.getElem?_cons_succ] at this;rw [this];congr 1
   simp;omega
  ·intro k m hk i hi;rcases zN k acc.length with h | h
   ·rw [zC h] at hk;exact hacc k m hk i hi
   ·rw [zD h] at hk;have hke:k=acc.length:=by
     rcases Nat.eq_zero_or_pos (k - acc.length) with h0 | h0
     ·omega
     ·rw [List.getElem?_eq_none (by simp;omega)] at hk;cases hk
    subst hke;simp at hk;subst hk;have h0:=hl 0;simp at h0;exact yG h0.symm hacc o.after.toList (fun e he=>by simpa using he) i hi
def qg (ms:List Nat)(i j:Nat):Bool:=(ms.getD j 0).testBit i
def lH (ops:Array Oper):Bool:=
 let ms:=masks ops.toList []
 (List.range ops.size).all fun j=>match ops[j]? with
  | none=>true
  | some oj=>
   (oj.after.toList.all fun e=> !Region.binds .any e || e.on<j) &&
   (List.range j).all fun i=>match ops[i]? with
    | none=>true
    | some oi=>
     ((!(bW oi.op && !gU oj.op) && !(!gU oi.op && bW oj.op)) || qg ms i j) &&
     ((match oi.dst with | some t=> !((looks ops oj).contains t || oj.dst==some t) | none=>true) || qg ms i j) &&
     ((match oj.dst with | some t=> !((looks ops oi).contains t) | none=>true) || qg ms i j)
structure I4 (ops:Array Oper):Prop where
 early: ∀j o,ops[j]? =some o→ ∀e∈o.after,Region.binds .any e=true→e.on<j
 acts: ∀i j oi oj,ops[i]? =some oi→ops[j]? =some oj→i<j→((bW oi.op=true∧gU oj.op=false)∨(gU oi.op=false∧bW oj.op=true))→qx ops i j
 writes: ∀i j oi oj t,ops[i]? =some oi→ops[j]? =some oj→i<j→oi.dst=some t→(t∈looks ops oj∨oj.dst=some t)→qx ops i j
 reads: ∀i j oi oj t,ops[i]? =some oi→ops[j]? =some oj→i<j→oj.dst=some t→t∈looks ops oi→qx ops i j
theorem KO (h:lH ops=true):I4 ops:=by
 have hms: ∀i j,qg (masks ops.toList []) i j=true→qx ops i j:=by
  intro i j hb;unfold qg at hb
  cases hx:(masks ops.toList [])[j]? with
  | none=>simp [List.getD,hx] at hb
  | some m=>
   simp [List.getD,hx] at hb;exact uR ops.toList [] (by simp) (by simp) j m hx i hb
 unfold lH at h;simp only [List.all_eq_true,List.mem_range] at h;have hj: ∀j o,ops[j]? =some o→j<ops.size:=fun j o ho=>(Array.getElem?_eq_some_iff.1 ho).1;have key: ∀i j oi oj,ops[i]? =some oi→ops[j]? =some oj→i<j→_:=fun i j oi oj hi hjj hij=>by
  have h1:=h j (hj j oj hjj);rw [hjj] at h1;simp only [Bool.and_eq_true,List.all_eq_true,List.mem_range] at h1;have h2:=h1.2 i hij;rw [hi] at h2;exact h2
 refine⟨?_,?_,?_,?_⟩
 ·intro j o ho e he hb;have h1:=h j (hj j o ho);rw [ho] at h1;simp only [Bool.and_eq_true,List.all_eq_true] at h1;have h2:=h1.1 e (by simpa using he);simpa [hb] using h2
 ·intro i j oi oj hi hjj hij hor;have h2:=key i j oi oj hi hjj hij;simp only [Bool.and_eq_true,Bool.or_eq_true] at h2;refine h2.1.1.elim (fun hh=> ?_) (hms i j);rcases hor with⟨a1,a2⟩ | ⟨a1,a2⟩ <;> simp [a1,a2] at hh
 ·intro i j oi oj t hi hjj hij hd hor;have h2:=key i j oi oj hi hjj hij;simp only [Bool.and_eq_true,Bool.or_eq_true] at h2;refine h2.1.2.elim (fun hh=> ?_) (hms i j);rw [hd] at hh;simp only [Bool.not_eq_true',Bool.or_eq_false_iff] at hh;rcases hor with a1 | a1
  ·have:=hh.1;simp [a1] at this
  ·have:=hh.2;simp [a1] at this
 ·intro i j oi oj t hi hjj hij hd hl;have h2:=key i j oi oj hi hjj hij;simp only [Bool.and_eq_true,Bool.or_eq_true] at h2;refine h2.2.elim (fun hh=> ?_) (hms i j);rw [hd] at hh;simp [hl] at hh
theorem CR {K:aP→ak→Prop}: ∀(l:List Oper) (i:Nat) (fr:aP) (h:ak),(∀j,l[j]? =ops[i+j]?)→iL P gl N true ops l K fr h→
  ∃(F:Nat→aP) (H:Nat→ak) (X:Nat→AV),F i=fr∧H i=h∧K (F (i+l.length)) (H (i+l.length))∧
   ∀j o,i≤j→j<i+l.length→ops[j]? =some o→(∀d,o.dst=some d→d<N)∧bG P gl N ops o (F j) (H j) (X j) (H (j+1))∧(gU o.op=true→ ∀h0,bG P gl N ops o (F j) h0 (X j) h0)∧(bW o.op=false→H (j+1)=H j)∧F (j+1)=gB (F j) o.dst (X j)
 | [],i,fr,h,_,hs=>⟨fun _=>fr,fun _=>h,fun _=> .junk,rfl,rfl,hs,fun j o h1 h2=>by simp at h2;omega⟩
 | o::l,i,fr,h,hl,hs=>by
  obtain⟨x,h',p1,p2,p3,p4,p5⟩:=vI hs;obtain⟨F,H,X,f1,f2,f3,f4⟩:=CR l (i+1) (gB fr o.dst x) h' (fun j=>by have:=hl (j+1);simpa [Nat.add_assoc,Nat.add_comm 1 j] using this) p5;refine⟨fun j=>if j≤i then fr else F j,fun j=>if j≤i then h else H j,fun j=>if j≤i then x else X j,by simp,by simp,?_,?_⟩
  ·simp only [List.length_cons];rw [if_neg (by omega),if_neg (by omega),show i+(l.length+1)=i+1+l.length by omega];exact f3
  ·intro j o' h1 h2 ho';simp only [List.length_cons] at h2;by_cases hji:j=i
   ·subst hji;have h0:=hl 0;simp at h0;rw [ho'] at h0;injection h0 with h0;subst h0;simp only [Nat.le_refl,if_true,if_neg (show ¬(j+1≤j) by omega)];rw [f1,f2];exact⟨p1,p2,p3,p4,rfl⟩
   ·simp only [if_neg (show ¬(j≤i) by omega),if_neg (show ¬(j+1≤i) by omega)];exact f4 j o' (by omega) (by omega) ho'
def FD (ops:Array Oper)(X:Nat→AV)(fr:aP)(D:Nat→Bool):Nat→aP
 | 0=>fr
 | i+1=>if D i then gB (FD ops X fr D i) ((ops[i]?).bind (·.dst)) (X i) else FD ops X fr D i
theorem om {X:Nat→AV} {D D':Nat→Bool} {t:Tmp}: ∀n,(∀i o,i<n→ops[i]? =some o→o.dst=some t→D i=D' i)→FD ops X fr D n t=FD ops X fr D' n t
 | 0,_=>rfl
 | n+1,hh=>by
  have ih:=om (X:=X) (D:=D) (D':=D') n (fun i o hi=>hh i o (by omega));have same: ∀(D:Nat→Bool),(∀o,ops[n]? =some o→o.dst≠some t)→FD ops X fr D (n+1) t=FD ops X fr D n t:=by
   intro D hne;simp only [FD];split
   ·cases ho:ops[n]? with
    | none=>simp [gB]
    | some o=>
     simp only [Option.bind_some]
     cases hd:o.dst with
     | none=>rfl
     | some d=>
      simp only [gB];rw [if_neg];intro e;exact hne o ho (by rw [hd,e])
   ·rfl
  by_cases hw: ∃o,ops[n]? =some o∧o.dst=some t
  ·obtain⟨o,ho,hd⟩:=hw;have hD:=hh n o (by omega) ho hd;simp only [FD,hD,ho,Option.bind_some,hd];split
   ·simp [gB]
   ·exact ih
  ·rw [same D (fun o ho e=>hw ⟨o,ho,e⟩),same D' (fun o ho e=>hw ⟨o,ho,e⟩)];exact ih
theorem qC {X:Nat→AV} {D:Nat→Bool} {t:Tmp} (n:Nat): ∀k,(∀i o,n≤i→i<n+k→ops[i]? =some o→o.dst=some t→D i=false)→FD ops X fr D (n+k) t=FD ops X fr D n t
 | 0,_=>rfl
 | k+1,hh=>by
  rw [←qC n k (fun i o h1 h2=>hh i o h1 (by omega))];show FD ops X fr D (n+k+1) t=_;simp only [FD];split
  ·rename_i hD
   cases ho:ops[n+k]? with
   | none=>simp [gB]
   | some o=>
    simp only [Option.bind_some]
    cases hd:o.dst with
    | none=>rfl
    | some d=>
     simp only [gB];rw [if_neg];intro e;have:=hh (n+k) o (by omega) (by omega) ho (by rw [hd,e]);rw [this] at hD;cases hD
  ·rfl
theorem tY {X:Nat→AV} {F:Nat→aP} (h0:F 0=fr)(n:Nat)(hF: ∀i o,i<n→ops[i]? =some o→F (i+1)=gB (F i) o.dst (X i))(hn:n≤ops.size): ∀k,k≤n→FD ops X fr (fun i=>decide (i<n)) k=F k
 | 0,_=>h0.symm
 | k+1,hk=>by
  have ih:=tY h0 n hF hn k (by omega);have ho:ops[k]? =some (ops[k]'(by omega)):=Array.getElem?_eq_getElem (by omega);simp only [FD,decide_eq_true_eq,if_pos (show k<n by omega),ho,Option.bind_some,ih];exact (hF k _ (by omega) ho).symm
theorem lJ {H:Nat→ak} {n:Nat} (hH: ∀i o,i<n→ops[i]? =some o→bW o.op=false→H (i+1)=H i)(hn:n≤ops.size)(a:Nat): ∀k,a+k≤n→(∀i o,a≤i→i<a+k→ops[i]? =some o→bW o.op=false)→H (a+k)=H a
 | 0,_,_=>rfl
 | k+1,hle,hh=>by
  have ih:=lJ hH hn a k (by omega) (fun i o h1 h2=>hh i o h1 (by omega));have ho:ops[a+k]? =some (ops[a+k]'(by omega)):=Array.getElem?_eq_getElem (by omega);rw [←ih];exact hH (a+k) _ (by omega) ho (hh (a+k) _ (by omega) (by omega) ho)
end
end Go.Abs
end
section
namespace Go.Abs
open Go
section
variable {P : Program} {gl : aR} {J : List eF} {h : ak} {w : World} {fr : aP} {N : Nat} {ops : Array Oper}
structure Part (gl:aR)(N:Nat)(ops:Array Oper)(fr:aP)(H:Nat→ak)(X:Nat→AV)(h:ak)(J0:List eF)(w0:World)(D:Nat→Bool)(a:Act)(w:World):Prop where
 closed: ∀i j,qx ops i j→D j=true→D i=true
 rel: ∃m J,m≤ops.size∧(∀e o,ops[e]? =some o→bW o.op=true→(D e=true↔e<m))∧qB gl N J (FD ops X fr D ops.size) (H m) a w∧jE h J0 w0 (H m) J w
theorem Part.go {F:Nat→aP} {H:Nat→ak} {X:Nat→AV} {J0:List eF} {w0:World} (dk:I4 ops)(hF0:F 0=fr)(hH0:H 0=h)
  (tr: ∀j o,j<ops.size→ops[j]? =some o→(∀d,o.dst=some d→d<N)∧bG P gl N ops o (F j) (H j) (X j) (H (j+1))∧(gU o.op=true→ ∀h0,bG P gl N ops o (F j) h0 (X j) h0)∧(bW o.op=false→H (j+1)=H j)∧F (j+1)=gB (F j) o.dst (X j))
  {D:Nat→Bool} {a:Act} {w:World} (p:Part gl N ops fr H X h J0 w0 D a w) {j:Nat} {o:Oper} (ho:ops[j]? =some o) (hD:D j=false) (hready: ∀i,qx ops i j→D i=true)
  {Q:Exit→Act→World→Prop} {next:Act→World→Prop} (hn: ∀a' w',Part gl N ops fr H X h J0 w0 (fun i=>if i=j then true else D i) a' w'→next a' w'):wpOp P ops Q j next a w:=by
 have hj:j<ops.size:=(Array.getElem?_eq_some_iff.1 ho).1;obtain⟨t1,t2,t3,t4,t5⟩:=tr j o hj ho;obtain⟨m,J,hm,hacts,r,ev⟩:=p.rel;have before: ∀i oi,ops[i]? =some oi→i<j→qx ops i j→D i=true:=fun i oi _ _ hd=>hready i hd;have behind: ∀i,qx ops j i→D i=false:=fun i hd=>by
  cases hDi:D i with
  | false=>rfl
  | true=>rw [p.closed j i hd hDi] at hD;cases hD
 have hframe: ∀t,(t∈looks ops o∨o.dst=some t)→(∀i oi,ops[i]? =some oi→j<i→oi.dst=some t→qx ops j i)→FD ops X fr D ops.size t=F j t:=by
  intro t ht hlater;rw [←tY (ops:=ops) (fr:=fr) (X:=X) hF0 j (fun i oi hi hoi=>(tr i oi (by omega) hoi).2.2.2.2) (by omega) j (Nat.le_refl _)];rw [show ops.size=j+(ops.size - j) by omega,qC j (ops.size - j) ?_]
  ·refine om j fun i oi hi hoi hd=> ?_;rw [before i oi hoi hi (dk.writes i j oi o t hoi ho hi hd ht)];simp [hi]
  ·intro i oi h1 h2 hoi hd;by_cases hij:i=j
   ·subst hij;exact hD
   ·exact behind i (hlater i oi hoi (by omega) hd)
 have hlook: ∀t∈looks ops o,FD ops X fr D ops.size t=F j t:=fun t ht=>hframe t (.inl ht) fun i oi hoi hji hd=>dk.reads j i o oi t ho hoi hji hd ht;have hHc: ∀(a:Nat) k,a+k≤ops.size→(∀i o,a≤i→i<a+k→ops[i]? =some o→bW o.op=false)→H (a+k)=H a:=
  lJ (ops:=ops) (n:=ops.size) (fun i oi hi hoi hne=>(tr i oi hi hoi).2.2.2.1 hne) (Nat.le_refl _)
 have hheap:gU o.op=false→H m=H j:=by
  intro hf;have hno: ∀e oe,ops[e]? =some oe→bW oe.op=true→e≠j→(D e=true↔e<j):=by
   intro e oe hoe hae hne;rcases Nat.lt_or_gt_of_ne hne with hlt | hgt
   ·have:=dk.acts e j oe o hoe ho hlt (.inl ⟨hae,hf⟩);simp [before e oe hoe hlt this,hlt]
   ·have:=dk.acts j e o oe ho hoe hgt (.inr ⟨hf,hae⟩);rw [behind e this];simp;omega
  rcases Nat.le_total m j with hmj | hmj
  ·have:=hHc m (j - m) (by omega) (fun i oi h1 h2 hoi=>by
    cases hab:bW oi.op with
    | false=>rfl
    | true=>
     have e1:=(hacts i oi hoi hab);have e2:=(hno i oi hoi hab (by omega));rw [e2] at e1;omega)
   rw [show m+(j - m)=j by omega] at this;exact this.symm
  ·have:=hHc j (m - j) (by omega) (fun i oi h1 h2 hoi=>by
    cases hab:bW oi.op with
    | false=>rfl
    | true=>
     by_cases hij:i=j
     ·subst hij;have e1:=(hacts i oi hoi hab);rw [hD] at e1;simp at e1;omega
     ·have e1:=(hacts i oi hoi hab);have e2:=(hno i oi hoi hab hij);rw [e2] at e1;omega)
   rw [show j+(m - j)=m by omega] at this;exact this
 have hst: ∃m',m'≤ops.size∧bG P gl N ops o (F j) (H m) (X j) (H m')∧(∀e oe,ops[e]? =some oe→bW oe.op=true→((if e=j then true else D e)=true↔e<m')):=by
  cases hf:gU o.op with
  | true=>
   refine⟨m,hm,t3 hf (H m),fun e oe hoe hae=> ?_⟩;by_cases hej:e=j
   ·subst hej;rw [ho] at hoe;injection hoe with hoe;subst hoe;have:bW o.op=false:=by cases hop:o.op <;> simp [hop,gU] at hf <;> rfl
    rw [this] at hae;cases hae
   ·rw [if_neg hej];exact hacts e oe hoe hae
  | false=>
   have e0:=hheap hf
   cases hab:bW o.op with
   | false=>
    refine⟨m,hm,?_,fun e oe hoe hae=> ?_⟩
    ·have:=t2;rw [t4 hab,←e0] at this;exact this
    ·by_cases hej:e=j
     ·subst hej;rw [ho] at hoe;injection hoe with hoe;subst hoe;rw [hab] at hae;cases hae
     ·rw [if_neg hej];exact hacts e oe hoe hae
   | true=>
    refine⟨j+1,by omega,?_,fun e oe hoe hae=> ?_⟩
    ·rw [e0];exact t2
    ·by_cases hej:e=j
     ·subst hej;simp
     ·rw [if_neg hej];rcases Nat.lt_or_gt_of_ne hej with hlt | hgt
      ·have:=dk.acts e j oe o hoe ho hlt (.inl ⟨hae,hf⟩);simp [before e oe hoe hlt this];omega
      ·have:=dk.acts j e o oe ho hoe hgt (.inr ⟨hf,hae⟩);rw [behind e this];simp;omega
 obtain⟨m',hm',hstep,hacts'⟩:=hst;have hFD: ∀t,FD ops X fr (fun i=>if i=j then true else D i) ops.size t=gB (FD ops X fr D ops.size) o.dst (X j) t:=by
  intro t;by_cases hd:o.dst=some t
  ·simp only [gB,hd,if_true];have hlate: ∀i oi,j+1≤i→i<j+1+(ops.size - (j+1))→ops[i]? =some oi→oi.dst=some t→(if i=j then true else D i)=false:=by
    intro i oi h1 h2 hoi hdi;rw [if_neg (by omega)];exact behind i (dk.writes j i o oi t ho hoi (by omega) hd (.inr hdi))
   rw [show ops.size=j+1+(ops.size - (j+1)) by omega,qC (D:=fun i=>if i=j then true else D i) (j+1) (ops.size - (j+1)) hlate];simp only [FD,if_true,ho,Option.bind_some,hd,gB]
  ·have:gB (FD ops X fr D ops.size) o.dst (X j) t=FD ops X fr D ops.size t:=by
    cases hdo:o.dst with
    | none=>rfl
    | some d=>
     simp only [gB];rw [if_neg];intro e;exact hd (by rw [hdo,e])
   rw [this];refine om ops.size fun i oi _ hoi hdi=> ?_;by_cases hij:i=j
   ·subst hij;rw [ho] at hoi;injection hoi with hoi;subst hoi;exact absurd hdi hd
   ·simp [hij]
 have hclosed: ∀i k,qx ops i k→(if k=j then true else D k)=true→(if i=j then true else D i)=true:=by
  intro i k hd hk;by_cases hij:i=j
  ·simp [hij]
  ·rw [if_neg hij];by_cases hkj:k=j
   ·subst hkj;exact hready i hd
   ·rw [if_neg hkj] at hk;exact p.closed i k hd hk
 obtain⟨s1,s2⟩:=hstep J a w Q r.heap (fun t ht=>by rw [←hlook t ht];exact r.tmps t);have fin: ∀(v:Value) (J':List eF) (w':World),dm gl (H m') J' w'→aQ J' (Own (H m') J') w' (X j) v→jE (H m) J w (H m') J' w'→next (a.put o.dst v) w':=by
  intro v J' w' q1 q2 q3;refine hn _ _ ⟨hclosed,m',J',hm',hacts',?_,ev.trans q3⟩;have:=Dt q3 r q1 t1 q2;exact⟨this.size,this.defers,fun t=>by rw [hFD t];exact this.tmps t,this.heap⟩
 unfold wpOp;rw [ho];simp only;split
 ·rename_i hw;refine .inl (Oper.wp_mono ?_ (s1 hw));rintro a' w' ⟨v,J',rfl,q1,q2,q3⟩;exact fin v J' w' q1 q2 q3
 ·rename_i hw;obtain⟨e1,q2⟩:=s2 (by simpa using hw);refine fin undef J w (by rw [e1];exact r.heap) (by rw [e1];exact q2) (by rw [e1];exact jE.refl _ _ _)
theorem Q7 (dk:I4 ops) {listed:Array Bool} (hsz:listed.size=ops.size)(hr:Region.ready .any ops listed=[]): ∀i,i<ops.size→listed.getD i false=true:=by
 intro i
 induction i using Nat.strongRecOn with
 | _ i ih=>
  intro hi
  cases hl:listed.getD i false with
  | true=>rfl
  | false=>
   have ho:ops[i]? =some (ops[i]'hi):=Array.getElem?_eq_getElem hi;have:i∈Region.ready .any ops listed:=mem_ready.2 ⟨by
    rw [Array.getD_eq_getD_getElem?] at hl ⊢;rw [Array.getElem?_eq_getElem (by omega)] at hl ⊢;simpa using hl,_,ho,fun e he hb=>ih e.on (dk.early i _ ho e he hb) (by have:=dk.early i _ ho e he hb;omega)⟩
   rw [hr] at this;cases this
theorem Gz {F:Nat→aP} {H:Nat→ak} {X:Nat→AV} {J0:List eF} {w0:World} (dk:I4 ops)(hF0:F 0=fr)(hH0:H 0=h)
  (tr: ∀j o,j<ops.size→ops[j]? =some o→(∀d,o.dst=some d→d<N)∧bG P gl N ops o (F j) (H j) (X j) (H (j+1))∧(gU o.op=true→ ∀h0,bG P gl N ops o (F j) h0 (X j) h0)∧(bW o.op=false→H (j+1)=H j)∧F (j+1)=gB (F j) o.dst (X j))
  {Q:Exit→Act→World→Prop} (hQ: ∀J a w,qB gl N J (F ops.size) (H ops.size) a w→jE h J0 w0 (H ops.size) J w→Q .normal a w):
  ∀(fuel:Nat) (listed:Array Bool) (a:Act) (w:World),listed.size=ops.size→(fuel=0→Region.ready .any ops listed=[])→(listed.toList.count false≤fuel)→Part gl N ops fr H X h J0 w0 (fun i=>listed.getD i false) a w→wpAny P .any ops Q fuel listed a w:=by
 have fin: ∀(listed:Array Bool) (a:Act) (w:World),listed.size=ops.size→Region.ready .any ops listed=[]→Part gl N ops fr H X h J0 w0 (fun i=>listed.getD i false) a w→Q .normal a w:=by
  intro listed a w hsz hr p;have hall:=Q7 dk hsz hr;obtain⟨m,J,hm,hacts,r,ev⟩:=p.rel;have hHm:H m=H ops.size:=by
   have:=lJ (ops:=ops) (n:=ops.size) (fun i oi hi hoi hne=>(tr i oi hi hoi).2.2.2.1 hne) (Nat.le_refl _) m (ops.size - m) (by omega) (fun i oi h1 h2 hoi=>by
    cases hab:bW oi.op with
    | false=>rfl
    | true=>
     have:=(hacts i oi hoi hab).1 (hall i (by omega));omega)
   rw [show m+(ops.size - m)=ops.size by omega] at this;exact this.symm
  have hFF: ∀t,FD ops X fr (fun i=>listed.getD i false) ops.size t=F ops.size t:=by
   intro t;rw [←tY (ops:=ops) (fr:=fr) (X:=X) hF0 ops.size (fun i oi hi hoi=>(tr i oi hi hoi).2.2.2.2) (Nat.le_refl _) ops.size (Nat.le_refl _)];exact om ops.size fun i oi hi _ _=>by rw [hall i hi];simp [hi]
  refine hQ J a w ⟨r.size,r.defers,fun t=> ?_,?_⟩ ?_
  ·rw [←hFF t,←hHm];exact r.tmps t
  ·rw [←hHm];exact r.heap
  ·rw [←hHm];exact ev
 intro fuel
 induction fuel with
 | zero=>
  intro listed a w hsz h0 _ p;exact⟨h0 rfl,fin listed a w hsz (h0 rfl) p⟩
 | succ fuel ih=>
  intro listed a w hsz _ hc p;refine⟨fun hr=>fin listed a w hsz hr p,fun i hi=> ?_⟩;obtain⟨hun,o,ho,hall⟩:=mem_ready.1 hi;have hil:i<listed.size:=by rw [hsz];exact (Array.getElem?_eq_some_iff.1 ho).1
  have hD:listed.getD i false=false:=by
   rw [Array.getD_eq_getD_getElem?,Array.getElem?_eq_getElem hil] at hun ⊢;simpa using hun
  have hready: ∀k,qx ops k i→listed.getD k false=true:=by
   intro k hd;generalize hii:i=i' at hd
   induction hd with
   | base a b ob e hob he hb hon=>
    subst hii;rw [ho] at hob;injection hob with hob;subst hob;rw [←hon];exact hall e he hb
   | trans a b c h1 h2 _ ih2=>
    exact p.closed a b h1 (ih2 hii)
  refine Part.go dk hF0 hH0 tr p ho hD hready fun a' w' p'=> ?_;have hD': ∀k,(listed.setIfInBounds i true).getD k false=if k=i then true else listed.getD k false:=by
   intro k;by_cases hk:k=i
   ·subst hk;rw [Array.getD_eq_getD_getElem?,Array.getElem?_setIfInBounds_self_of_lt hil];simp
   ·rw [Array.getD_eq_getD_getElem?,Array.getElem?_setIfInBounds_ne (Ne.symm hk),←Array.getD_eq_getD_getElem?];simp [hk]
  have hcount:(listed.setIfInBounds i true).toList.count false+1=listed.toList.count false:=by
   rw [Array.toList_setIfInBounds];have hli:listed.toList[i]? =some false:=by
    rw [Array.getD_eq_getD_getElem?] at hD
    cases hx:listed[i]? with
    | none=>rw [Array.getElem?_eq_getElem hil] at hx;cases hx
    | some b=>rw [hx] at hD;simp at hD;subst hD;simpa using hx
   obtain⟨hlt,heq⟩:=zA.1 hli;rw [List.count_set hlt];rw [heq];have hpos:0<listed.toList.count false:=List.count_pos_iff.2 (by rw [←heq];exact List.getElem_mem hlt);have e1:(if (false==false)=true then 1 else 0)=1:=rfl;have e2:(if (true==false)=true then 1 else 0)=0:=rfl;rw [e1,e2];omega
  refine ih _ a' w' (by simp [hsz]) ?_ (by omega) ?_
  ·intro h0;have hcz:(listed.setIfInBounds i true).toList.count false=0:=by omega
   cases hr:Region.ready .any ops (listed.setIfInBounds i true) with
   | nil=>rfl
   | cons k ks=>
    have hk:k∈Region.ready .any ops (listed.setIfInBounds i true):=by rw [hr];simp
    obtain⟨hun',ok,hok,_⟩:=mem_ready.1 hk;have hkl:k<(listed.setIfInBounds i true).size:=by simp [hsz];exact (Array.getElem?_eq_some_iff.1 hok).1
    rw [Array.getD_eq_getD_getElem?,Array.getElem?_eq_getElem hkl] at hun';simp only [Option.getD_some] at hun';have:false∈(listed.setIfInBounds i true).toList:=by
     rw [←hun'];exact Array.getElem_mem_toList hkl
    have:=List.count_pos_iff.2 this;omega
  ·have hfun:(fun k=>(listed.setIfInBounds i true).getD k false)=(fun k=>if k=i then true else listed.getD k false):=funext hD';rw [hfun];exact p'
theorem aW.region_draw {id:Nat} {Q:dN} (hm:P.follows .mixedOrders=true)(hd:lH ops=true)(hs:iL P gl N true ops ops.toList (Q .normal) fr h):aW P gl N (.region id ops true) Q fr h:=by
 intro J a w r;have dk:=KO hd;obtain⟨F,H,X,f1,f2,f3,f4⟩:=CR ops.toList 0 fr h (by simp) hs;simp only [Nat.zero_add,Array.length_toList] at f3 f4;obtain⟨hdr,evd⟩:=r.heap.drew;refine wp_region_any hm ?_;refine Gz (F:=F) (H:=H) (X:=X) (fr:=fr) (h:=h) (J0:=J) (w0:=w) dk f1 f2 (fun j o hj ho=>f4 j o (Nat.zero_le _) hj ho) (Q:=lift gl N h J w Q) ?_ ops.size _ a _ (by simp) ?_ (by simp) ?_
 ·intro J' a' w' r' ev';exact⟨J',F ops.size,H ops.size,r',ev',f3⟩
 ·intro h0;have:ops= #[]:=Array.eq_empty_of_size_eq_zero h0;subst this;rfl
 ·refine⟨fun i j _ hj=> ?_,0,J,Nat.zero_le _,fun e o ho hae=> ?_,?_,?_⟩
  ·exfalso
   simp only [Array.getD_eq_getD_getElem?] at hj
   cases hx:(Array.replicate ops.size false)[j]? with
   | none=>rw [hx] at hj;simp at hj
   | some b=>
    rw [hx] at hj;rw [Array.getElem?_replicate] at hx;split at hx <;> simp_all
  ·have he:e<ops.size:=(Array.getElem?_eq_some_iff.1 ho).1;simp [he]
  ·have hfd: ∀n,FD ops X fr (fun i=>(Array.replicate ops.size false).getD i false) n=fr:=by
    intro n
    induction n with
    | zero=>rfl
    | succ n ih=>
     simp only [FD];rw [if_neg,ih];intro hh;simp only [Array.getD_eq_getD_getElem?] at hh
     cases hx:(Array.replicate ops.size false)[n]? with
     | none=>rw [hx] at hh;simp at hh
     | some b=>
      rw [hx] at hh;rw [Array.getElem?_replicate] at hx;split at hx <;> simp_all
   rw [hfd,f2];exact⟨r.size,r.defers,fun t=>(r.tmps t).evo evd,hdr⟩
  ·rw [f2];exact evd
end
end Go.Abs
end
section
namespace Go.Abs
open Go
def TQ (P:Program)(h:ak)(fr:aP):ResultVar→AV
 | .tmp t=>fr t
 | .cell t ty=>loadV P h ty (fr t)
def EN (P:Program)(h:ak)(fr:aP):ResultVar→Prop
 | .tmp _=>True
 | .cell t ty=>(ax P ty).ok=true∧loadOk P h ty (fr t)
def EM (P:Program)(h:ak)(fr:aP):List ResultVar→AV
 | [r]=>TQ P h fr r
 | l=> .tup (l.map (TQ P h fr))
def p8 (P:Program)(fn:Func)(R:AV→ak→Prop):dN
 | .normal,fr,h | .ret,fr,h=>(∀r∈fn.results.toList,EN P h fr r)∧R (EM P h fr fn.results.toList) h
 | _,_,_=>False
section
variable {P : Program} {gl : aR} {J : List eF} {h : ak} {w : World} {fr : aP} {N : Nat}
def Vk (tmps:Array Value):ResultVar→Sem Value
 | .tmp t=>pure (tmps.getD t undef)
 | .cell a t=>do loadVar t (←asAddr (tmps.getD a undef))
theorem SE (hh:dm gl h J w) {t:TypeId} {x:AV} {u:Value} (hx:aQ J (Own h J) w x u)(ht:(ax P t).ok=true)
  (hok:loadOk P h t x): ∃v,(do loadVar t (←asAddr u)).run P w= .ok v w∧aQ J (Own h J) w (loadV P h t x) v:=by
 unfold loadOk at hok;unfold loadV;split at hok
 ·rename_i b i c;obtain⟨hi,hc⟩:=hok;have hg:(hcells h b)[i]? =some ((hcells h b).getD i []):=by simp [List.getD,zB hi]
  obtain⟨k,hk,rfl,hl,hr⟩:=Dr hh hx hg;obtain⟨v,hv,hvr⟩:=sj (P:=P) ht hr hc;exact⟨v,by simp only [asAddr,Sem.run_bind,Sem.run_pure,Result.andThen_ok,hv],hvr⟩
 ·rename_i es i c;obtain⟨hi,hc⟩:=hok;have hg:es[i]? =some (es.getD i []):=by simp [List.getD,zB hi]
  obtain⟨a,rfl,hr⟩:=KQ hx hg;obtain⟨v,hv,hvr⟩:=sj (P:=P) ht hr hc;exact⟨v,by simp only [asAddr,Sem.run_bind,Sem.run_pure,Result.andThen_ok,hv],hvr⟩
 ·exact hok.elim
theorem Vl {a:Act} (r:qB gl N J fr h a w) {x:ResultVar} (hok:EN P h fr x): ∃v,(Vk a.tmps x).run P w= .ok v w∧aQ J (Own h J) w (TQ P h fr x) v:=by
 cases x with
 | tmp t=>exact⟨_,by simp [Vk],r.tmps t⟩
 | cell t ty=>exact SE r.heap (r.tmps t) hok.1 hok.2
theorem Mi {a:Act} (r:qB gl N J fr h a w): ∀(l:List ResultVar),(∀x∈l,EN P h fr x)→ ∃vs,(l.mapM (Vk a.tmps)).run P w= .ok vs w∧bX J (Own h J) w (l.map (TQ P h fr)) vs
 | [],_=>⟨[],by simp,.nil⟩
 | x::l,hok=>by
  obtain⟨v,h1,h2⟩:=Vl r (hok x (by simp));obtain⟨vs,h3,h4⟩:=Mi r l fun y hy=>hok y (by simp [hy]);exact⟨v::vs,by simp [h1,h3],.cons h2 h4⟩
theorem Ir {a:Act} {fn:Func} (r:qB gl N J fr h a w)(hok: ∀x∈fn.results.toList,EN P h fr x):
  ∃v,(results fn a.tmps).run P w= .ok v w∧aQ J (Own h J) w (EM P h fr fn.results.toList) v:=by
 obtain⟨vs,h1,h2⟩:=Mi (P:=P) r fn.results.toList hok;have hf:results fn a.tmps=((fn.results.mapM (Vk a.tmps))>>=fun vs=>pure (if h:vs.size=1 then vs[0] else .tuple vs)):=by
  unfold results;congr 1
 rw [hf,Array.mapM_eq_mapM_toList];simp only [Sem.run_bind,Sem.run_map,h1,Result.andThen_ok];generalize fn.results.toList=l at h2;have hl:=h2.1
 match l,vs,h2 with
 | [],[],h2=>exact⟨_,rfl,.tup _ _ rfl bX.nil.2⟩
 | [x],[v],h2=>exact⟨_,rfl,h2.2 0 _ _ rfl rfl⟩
 | x::y::l,v::u::vs,h2=>exact⟨.tuple (v::u::vs).toArray,rfl,.tup _ _ h2.1 h2.2⟩
 | [],_::_,h2=>simp at hl
 | [x],[],h2=>simp at hl
 | [x],_::_::_,h2=>simp at hl
 | _::_::_,[],h2=>simp at hl
 | _::_::_,[_],h2=>simp at hl
theorem af.of_body' {f:FuncId} {fn:Func} {c:Code} {args:List AV} {R:AV→ak→Prop} (hf:P.funcs[f]? =some fn)(hb:fn.body=some c)(hname:(fn.name== "runtime.NumGoroutine")=false)
  (hn:args.length≤fn.ntmps) (hc:aW P gl fn.ntmps c (p8 P fn R) (x9 args) h):af P gl f args h R:=by
 refine⟨⟨fn,hf,by simp [hb],hname⟩,fun J w vs hh hv=> ?_⟩;refine calls_of_wp hf hb ?_;have hr:qB gl fn.ntmps J (x9 args) h { tmps:=vs.toArray++Array.replicate (fn.ntmps - vs.toArray.size) undef,defers:=[] } w:=by
  refine⟨?_,rfl,fun t=> ?_,hh⟩
  ·have:=hv.1;simp;omega
  ·unfold x9;rcases zN t args.length with h1 | h1
   ·have h2:t<vs.length:=by rw [←hv.1];exact h1
    have e1:args.getD t .junk=args[t]:=by simp [List.getD,h1]
    have e2:(vs.toArray++Array.replicate (fn.ntmps - vs.toArray.size) undef).getD t undef=vs[t]:=by
     simp [Array.getD_eq_getD_getElem?,Array.getElem?_append,h2]
    rw [e1,e2];exact hv.2 t _ _ (zB h1) (zB h2)
   ·have e1:args.getD t .junk= .junk:=by simp [List.getD,h1]
    rw [e1];exact .junk _
 refine wp_mono (hc J _ w hr) ?_;rintro e a' w' ⟨J',fr',h',r',ev,q⟩
 cases e with
 | normal=>
  obtain⟨hx,hR⟩:=q;obtain⟨v,hv1,hv2⟩:=Ir (P:=P) r' hx;exact⟨r'.defers,v,hv1,_,v,J',h',rfl,r'.heap,hv2,ev,hR⟩
 | ret=>
  obtain⟨hx,hR⟩:=q;obtain⟨v,hv1,hv2⟩:=Ir (P:=P) r' hx;exact⟨r'.defers,v,hv1,_,v,J',h',rfl,r'.heap,hv2,ev,hR⟩
 | _=>exact q.elim
end
end Go.Abs
end
end
section
section
namespace Go.Abs
open Go
def MQ:AV→(Bool→Prop)→Prop
 | .bool t,k=>k t
 | _,_=>False
def uh (kx ky:aP→ak→Prop)(fr:aP)(h:ak)(t:Bool):Prop:=(t=true→kx fr h)∧(t=false→ky fr h)
def Cf (P:Program)(gl:aR)(N:Nat):Code→dN→aP→ak→Prop
 | .skip,Q,fr,h=>Q .normal fr h
 | .label _,Q,fr,h=>Q .normal fr h
 | .seq a b,Q,fr,h=>Cf P gl N a (iY (Cf P gl N b Q) Q) fr h
 | .cond c x y,Q,fr,h=>(ev gl fr c).gd=true∧MQ (ev gl fr c).core (uh (Cf P gl N x Q) (Cf P gl N y Q) fr h)
 | .block id c,Q,fr,h=>Cf P gl N c (jZ id Q) fr h
 | .exit id,Q,fr,h=>Q (.exit id) fr h
 | .ret,Q,fr,h=>Q .ret fr h
 | .region _ ops false,Q,fr,h=>iL P gl N false ops ops.toList (Q .normal) fr h
 | .region _ ops true,Q,fr,h=>lH ops=true∧iL P gl N true ops ops.toList (Q .normal) fr h
 | .loop c,Q,fr,h=>aW P gl N (.loop c) Q fr h
 | _,_,_,_=>False
section
variable {P : Program} {gl : aR} {N : Nat} {fr : aP} {h : ak}
theorem aW.of_awp (hm:P.follows .mixedOrders=true): ∀(c:Code) (Q:dN) (fr:aP) (h:ak),Cf P gl N c Q fr h→aW P gl N c Q fr h
 | .skip,Q,fr,h,hs=>aW.skip hs
 | .label _,Q,fr,h,hs=>aW.label hs
 | .seq a b,Q,fr,h,hs=>by
  refine aW.seq ((aW.of_awp hm a _ fr h hs).mono ?_);intro e fr' h' q
  cases e with
  | normal=>exact aW.of_awp hm b Q fr' h' q
  | _=>exact q
 | .cond c x y,Q,fr,h,hs=>by
  obtain⟨hg,hs⟩:=hs;unfold MQ at hs;split at hs
  ·rename_i t ht;intro J a w r;have re:=(qN (a:=a) r.heap (fun t' _=>r.tmps t'):aQ J (Own h J) w (ev gl fr c) (a.eval c)).core hg;rw [ht] at re;have hc:a.eval c= .bool t:=by
    generalize a.eval c=v at re;cases re
    rfl
   refine wp_cond hc ?_
   cases t with
   | true=>exact aW.of_awp hm x Q fr h (hs.1 rfl) J a w r
   | false=>exact aW.of_awp hm y Q fr h (hs.2 rfl) J a w r
  ·exact hs.elim
 | .block id c,Q,fr,h,hs=>aW.block (aW.of_awp hm c _ fr h hs)
 | .exit id,Q,fr,h,hs=>aW.exit hs
 | .ret,Q,fr,h,hs=>aW.ret hs
 | .region _ ops false,Q,fr,h,hs=>aW.region hs
 | .region _ ops true,Q,fr,h,hs=>aW.region_draw hm hs.1 hs.2
 | .loop c,Q,fr,h,hs=>hs
 | .rangeFunc ..,_,_,_,hs=>hs.elim
 | .scope _,_,_,_,hs=>hs.elim
 | .goto _,_,_,_,hs=>hs.elim
 | .refuse _,_,_,_,hs=>hs.elim
theorem af.body {f:FuncId} (fn:Func)(c:Code) {args:List AV} {R:AV→ak→Prop} (hm:P.follows .mixedOrders=true)(hf:P.funcs[f]? =some fn)(hb:fn.body=some c)(hname:(fn.name== "runtime.NumGoroutine")=false)
  (hn:args.length≤fn.ntmps) (hc:Cf P gl fn.ntmps c (p8 P fn R) (x9 args) h):af P gl f args h R:=
 af.of_body' hf hb hname hn (aW.of_awp hm c _ _ _ hc)
theorem aW.up {c:Code} {Q:dN} (hm:P.follows .mixedOrders=true)(n:Nat)(I:Nat→aP→ak→Prop)(k:Nat)(hk:k≤n)(h0:I k fr h)
  (round: ∀k fr h,k≤n→I k fr h→Cf P gl N c (iY (fun fr' h'=> ∃k',k<k'∧k'≤n∧I k' fr' h') Q) fr h):aW P gl N (.loop c) Q fr h:=
 aW.loop_up n I k hk h0 fun k fr h h1 h2=>aW.of_awp hm c _ _ _ (round k fr h h1 h2)
theorem aW.down {c:Code} {Q:dN} (hm:P.follows .mixedOrders=true)(I:Nat→aP→ak→Prop)(k:Nat)(h0:I k fr h)
  (round: ∀k fr h,I k fr h→Cf P gl N c (iY (fun fr' h'=> ∃k',k'<k∧I k' fr' h') Q) fr h):aW P gl N (.loop c) Q fr h:=
 aW.loop I k h0 fun k fr h h2=>aW.of_awp hm c _ _ _ (round k fr h h2)
theorem ay.pure {q:Bool} {g:Option (Nat×Bool)} {G:Bool} {fn:FuncId} {first caps args:List AV} {c:AV→ak→Prop} (r:AV)
  (h1:G=true→af P gl fn (first++args++caps) h (fun x h'=>x=r∧h'=h)) (h2:c (tN g G r) h):ay P gl q g G (.fn (.func fn) first caps) args h c:=
 .inl ⟨r,h1,h2⟩
theorem ay.any {g:Option (Nat×Bool)} {fn:FuncId} {first caps args:List AV} {c R:AV→ak→Prop}
  (h1:af P gl fn (first++args++caps) h R) (h2: ∀x h',R x h'→c x h'):ay P gl false g true (.fn (.func fn) first caps) args h c:=
 .inr ⟨rfl,fun _=>h1.mono h2,fun h=>by cases h⟩
end
inductive AV.Data:AV→Prop
 | bool (b:Bool):Data (.bool b)
 | int (k:IntKind) (n:Int):Data (.int k n)
 | str (s:List UInt8):Data (.str s)
 | lit (x:Value):Data (.lit x)
 | agg (cs:List AV) (h: ∀x∈cs,Data x):Data (.agg cs)
 | tup (cs:List AV) (h: ∀x∈cs,Data x):Data (.tup cs)
 | nil:Data .nil
 | e0:Data .e0
 | ro (es:List (List AV)) (h: ∀e∈es,∀x∈e,Data x):Data (.ro es)
 | rop (es:List (List AV)) (i c:Nat) (h: ∀e∈es,∀x∈e,Data x):Data (.rop es i c)
 | fn (f:Fn) (a b:List AV) (h1: ∀x∈a,Data x) (h2: ∀x∈b,Data x):Data (.fn f a b)
 | iface (t:TypeId) (x:AV) (h:Data x):Data (.iface t x)
 | junk:Data .junk
inductive AV.Bdd (n:Nat):AV→Prop
 | bool (b:Bool):Bdd n (.bool b)
 | int (k:IntKind) (m:Int):Bdd n (.int k m)
 | str (s:List UInt8):Bdd n (.str s)
 | lit (x:Value):Bdd n (.lit x)
 | agg (cs:List AV) (h: ∀(i:Nat) (x:AV),cs[i]? =some x→Bdd n x):Bdd n (.agg cs)
 | tup (cs:List AV) (h: ∀(i:Nat) (x:AV),cs[i]? =some x→Bdd n x):Bdd n (.tup cs)
 | nil:Bdd n .nil
 | e0:Bdd n .e0
 | ro (es:List (List AV)) (h: ∀(i:Nat) (e:List AV) (c:Nat) (x:AV),es[i]? =some e→e[c]? =some x→Bdd n x):Bdd n (.ro es)
 | rop (es:List (List AV)) (i₀ c₀:Nat) (h: ∀(i:Nat) (e:List AV) (c:Nat) (x:AV),es[i]? =some e→e[c]? =some x→Bdd n x):Bdd n (.rop es i₀ c₀)
 | own (b off len:Nat) (h:b<n):Bdd n (.own b off len)
 | ptr (b i c:Nat) (h:b<n):Bdd n (.ptr b i c)
 | fn (f:Fn) (a b:List AV) (h1: ∀(i:Nat) (x:AV),a[i]? =some x→Bdd n x) (h2: ∀(i:Nat) (x:AV),b[i]? =some x→Bdd n x):Bdd n (.fn f a b)
 | map (b:Nat) (h:b<n):Bdd n (.map b)
 | obj (b:Nat) (h:b<n):Bdd n (.obj b)
 | iface (t:TypeId) (x:AV) (h:Bdd n x):Bdd n (.iface t x)
 | opt (g:Bool) (x:AV) (h:g=true→Bdd n x):Bdd n (.opt g x)
 | junk:Bdd n .junk
theorem AV.Data.bdd {n:Nat} {x:AV} (h:x.Data):x.Bdd n:=by
 induction h with
 | bool b=>exact .bool b
 | int k m=>exact .int k m
 | str s=>exact .str s
 | lit x=>exact .lit x
 | agg cs _ ih=>exact .agg cs fun i x hx=>ih x (zF hx)
 | tup cs _ ih=>exact .tup cs fun i x hx=>ih x (zF hx)
 | nil=>exact .nil
 | e0=>exact .e0
 | ro es _ ih=>exact .ro es fun i e c x he hx=>ih e (zF he) x (zF hx)
 | rop es i c _ ih=>exact .rop es i c fun i e c x he hx=>ih e (zF he) x (zF hx)
 | fn f a b _ _ ih1 ih2=>exact .fn f a b (fun i x hx=>ih1 x (zF hx)) (fun i x hx=>ih2 x (zF hx))
 | iface t x _ ih=>exact .iface t x ih
 | junk=>exact .junk
section
variable {J J' : List eF} {O O' : Nat → Prop} {w : World}
theorem aK {α:Type} {l:List α} {i:Nat} {x:α} (h:l[i]? =some x):i<l.length:=(zA.1 h).1
theorem aQ.bdd {x:AV} {v:Value} (h:aQ J O w x v):x.Bdd J.length:=by
 induction h with
 | bool b=>exact .bool b
 | int k m=>exact .int k m
 | str s=>exact .str s
 | lit x _=>exact .lit x
 | agg cs vs hl _ _ ih=>exact .agg cs fun i x hx=>ih i x (vs[i]'(by have:=aK hx;omega)) hx (zB _)
 | tup cs vs hl _ ih=>exact .tup cs fun i x hx=>ih i x (vs[i]'(by have:=aK hx;omega)) hx (zB _)
 | nil=>exact .nil
 | e0 a=>exact .e0
 | roNil=>exact .ro [] (by simp)
 | ro es a n cap f _ _ _ _ _ _ _ ih=>exact .ro es ih
 | rop es i c a n f _ _ _ _ _ _ ih=>exact .rop es i c ih
 | own b off len k a cap hb _ _ _=>exact .own b off len (aK hb)
 | ptr b i c k hb=>exact .ptr b i c (aK hb)
 | fn f first caps vf vc hf hc _ _ ih1 ih2=>exact .fn f first caps (fun i x hx=>ih1 i x (vf[i]'(by have:=aK hx;omega)) hx (zB _)) (fun i x hx=>ih2 i x (vc[i]'(by have:=aK hx;omega)) hx (zB _))
 | map b k hb=>exact .map b (aK hb)
 | obj b k hb=>exact .obj b (aK hb)
 | iface t x v _ ih=>exact .iface t x ih
 | opt g x v _ _ ih=>exact .opt g x ih
 | junk v=>exact .junk
theorem aQ.cut {x:AV} {v:Value} {n:Nat} (h:aQ J O w x v)(hb:x.Bdd n)(hO: ∀r,O' r→O r):aQ (J.take n) O' w x v:=by
 induction h with
 | bool b=>exact .bool b
 | int k n=>exact .int k n
 | str s=>exact .str s
 | lit x h=>exact .lit x h
 | agg cs vs hl h1 _ ih=>cases hb with | agg _ hb=>exact .agg cs vs hl h1 fun i x v hx hv=>ih i x v hx hv (hb i x hx)
 | tup cs vs hl _ ih=>cases hb with | tup _ hb=>exact .tup cs vs hl fun i x v hx hv=>ih i x v hx hv (hb i x hx)
 | nil=>exact .nil
 | e0 a=>exact .e0 a
 | roNil=>exact .roNil
 | ro es a n cap f hcap hn hO' hl hc h1 _ ih=>cases hb with | ro _ hb=>exact .ro es a n cap f hcap hn (hO'.imp id fun ⟨p,q⟩=>⟨p,fun h=>q (hO _ h)⟩) hl hc h1 fun i e c x hi hx=>ih i e c x hi hx (hb i e c x hi hx)
 | rop es i₀ c₀ a n f hn hO' hl hc h1 _ ih=>cases hb with | rop _ _ _ hb=>exact .rop es i₀ c₀ a n f hn (hO'.imp id fun ⟨p,q⟩=>⟨p,fun h=>q (hO _ h)⟩) hl hc h1 fun i e c x hi hx=>ih i e c x hi hx (hb i e c x hi hx)
 | own b off len k a cap hk ha hlen hcap=>cases hb with | own _ _ _ hb=>exact .own b off len k a cap (by rw [List.getElem?_take_of_lt hb];exact hk) ha hlen hcap
 | ptr b i c k hk=>cases hb with | ptr _ _ _ hb=>exact .ptr b i c k (by rw [List.getElem?_take_of_lt hb];exact hk)
 | fn f first caps vf vc hf hc _ _ ih1 ih2=>cases hb with | fn _ _ _ hb1 hb2=>exact .fn f first caps vf vc hf hc (fun i x v hx hv=>ih1 i x v hx hv (hb1 i x hx)) (fun i x v hx hv=>ih2 i x v hx hv (hb2 i x hx))
 | map b k hk=>cases hb with | map _ hb=>exact .map b k (by rw [List.getElem?_take_of_lt hb];exact hk)
 | obj b k hk=>cases hb with | obj _ hb=>exact .obj b k (by rw [List.getElem?_take_of_lt hb];exact hk)
 | iface t x v _ ih=>cases hb with | iface _ _ hb=>exact .iface t x v (ih hb)
 | opt g x v _ h0 ih=>cases hb with | opt _ _ hb=>exact .opt g x v (fun hg=>ih hg (hb hg)) h0
 | junk v=>exact .junk v
end
def Uz (n:Nat):cZ→Prop
 | .dead=>True
 | .cells _ es=> ∀(i:Nat) (e:List AV) (c:Nat) (x:AV),es[i]? =some e→e[c]? =some x→x.Bdd n
 | .map kvs=> ∀(i:Nat) (p:AV×AV),kvs[i]? =some p→p.1.Bdd n∧p.2.Bdd n
 | .iter m _ _=>m<n
 | .pin x=>x.Bdd n
 | .raw _=>True
theorem wY.bdd {J:List eF} {O:Nat→Prop} {w:World} {k:eF} {o:cZ} (h:wY J O w k o):Uz J.length o:=by
 cases o with
 | dead=>trivial
 | cells n es=>
  obtain⟨_,_,_,_,vs,T,_,_,hc⟩:=h;intro i e c x hi hx;obtain⟨v,_,_,hv⟩:=hc i e c x hi hx;exact hv.bdd
 | map kvs=>
  obtain⟨es,clock,_,hl,hr,_⟩:=h;intro i p hp;have hi:es[i]? =some (es[i]'(by have:=aK hp;omega)):=Array.getElem?_eq_getElem _;exact⟨(hr i _ p hi hp).1.bdd,(hr i _ p hi hp).2.bdd⟩
 | iter m n seen=>
  obtain⟨k',h1,_⟩:=h;exact aK h1
 | pin x=>
  obtain⟨v,_,_,h1⟩:=h;exact h1.bdd
 | raw o=>trivial
theorem wY.cut {J:List eF} {O O':Nat→Prop} {w:World} {k:eF} {o:cZ} {n:Nat} (h:wY J O w k o)(hb:Uz n o)(hO: ∀r,O' r→O r):wY (J.take n) O' w k o:=by
 cases o with
 | dead=>trivial
 | cells m es=>
  obtain⟨h0,h1,h2,h3,vs,T,h4,h5,h6⟩:=h;refine⟨h0,h1,h2,h3,vs,T,h4,h5,fun i e c x hi hx=> ?_⟩;obtain⟨v,p1,p2,p3⟩:=h6 i e c x hi hx;exact⟨v,p1,p2,p3.cut (hb i e c x hi hx) hO⟩
 | map kvs=>
  obtain⟨es,clock,h1,h2,h3,h4⟩:=h;exact⟨es,clock,h1,h2,fun i e p hi hp=>⟨(h3 i e p hi hp).1.cut (hb i p hp).1 hO,(h3 i e p hi hp).2.cut (hb i p hp).2 hO⟩,h4⟩
 | iter m n' seen=>
  obtain⟨k',h1,h2⟩:=h;exact⟨k',by rw [List.getElem?_take_of_lt hb];exact h1,h2⟩
 | pin x=>
  obtain⟨v,T,h1,h2⟩:=h;exact⟨v,T,h1,h2.cut hb hO⟩
 | raw o=>exact h
inductive qy (n:Nat)(h:ak):AV→AV→Prop
 | data (x:AV) (hd:x.Data):qy n h x x
 | bdd (x:AV) (hd:x.Bdd n):qy n h x x
 | nil:qy n h .nil (.ro [])
 | e0:qy n h .e0 (.ro [])
 | own (b off len m:Nat) (es es':List (List AV)) (hn:n≤b) (hb:h[b]? =some (.cells m es)) (hl:off+len≤es.length) (hl':es'.length=len)
   (hlen: ∀(i:Nat) (e e':List AV),es[off+i]? =some e→es'[i]? =some e'→e'.length=e.length)
   (hc: ∀(i:Nat) (e e':List AV) (c:Nat) (x x':AV),es[off+i]? =some e→es'[i]? =some e'→e[c]? =some x→e'[c]? =some x'→qy n h x x'):qy n h (.own b off len) (.ro es')
 | agg (cs cs':List AV) (hl:cs'.length=cs.length) (hc: ∀(i:Nat) (x x':AV),cs[i]? =some x→cs'[i]? =some x'→qy n h x x'):qy n h (.agg cs) (.agg cs')
 | tup (cs cs':List AV) (hl:cs'.length=cs.length) (hc: ∀(i:Nat) (x x':AV),cs[i]? =some x→cs'[i]? =some x'→qy n h x x'):qy n h (.tup cs) (.tup cs')
theorem Es {h:ak} {J:List eF} {n r:Nat} (ho:Own (h.take n) (J.take n) r):Own h J r:=by
 obtain⟨b,k,o,h1,h2,h3,h4⟩:=ho;rw [List.getElem?_take] at h1 h2;split at h1
 ·rename_i hb;rw [if_pos hb] at h2;exact⟨b,k,o,h1,h2,h3,h4⟩
 ·cases h1
theorem qy.sound {gl:aR} {n:Nat} {h:ak} {J:List eF} {w:World} (hh:dm gl h J w) {x x':AV} (hf:qy n h x x'): ∀ {v:Value},aQ J (Own h J) w x v→aQ (J.take n) (Own (h.take n) (J.take n)) w x' v:=by
 induction hf with
 | data x hd=>exact fun hv=>hv.cut hd.bdd fun r=>Es
 | bdd x hd=>exact fun hv=>hv.cut hd fun r=>Es
 | nil=>intro v hv;cases hv;exact .roNil
 | e0=>
  intro v hv
  cases hv with
  | e0 a=>
   cases a with
   | none=>exact .roNil
   | some a=>exact aQ.ro [] a 1 0 (fun _ _=>undef) (by simp) (by omega) (.inl rfl) (by simp) (by simp) (by simp) (by simp)
 | own b off len m es es' hn hb hl hl' hlen hc ih=>
  intro v hv
  cases hv with
  | own _ _ _ k a cap hk ha hle hcap=>
   obtain⟨h0,h1,h2,h3,vs,T,h4,h5,h6⟩:=hh.obj b k _ hk hb;rw [←hl'];by_cases hes:es'=[]
   ·subst hes;exact aQ.ro [] a 1 cap (fun _ _=>undef) (by simp) (by omega) (.inl rfl) (by simp) (by simp) (by simp) (by simp)
   ·have hpos:0<len:=by rw [←hl'];exact List.length_pos_iff.2 hes
    have ha':=ha (by omega);subst ha';have hnot: ¬Own (h.take n) (J.take n) k.r:=by
     rintro⟨b',k',o',q1,q2,q3,q4⟩;rw [List.getElem?_take] at q1 q2;split at q1
     ·rename_i hb';rw [if_pos hb'] at q2;have:=hh.inj b b' k k' _ o' hk q1 hb q2 (by simp) q3 q4.symm;omega
     ·cases q1
    have src: ∀(i:Nat) (e':List AV),es'[i]? =some e'→ ∃e,es[off+i]? =some e∧e.length=k.n∧e'.length=k.n:=by
     intro i e' hi;have hlt:=aK hi;have he:es[off+i]? =some (es[off+i]'(by omega)):=zB (by omega);exact⟨_,he,h3 _ _ he,by rw [hlen i _ e' he hi];exact h3 _ _ he⟩
    have cell: ∀(i:Nat) (e':List AV) (c:Nat) (x':AV),es'[i]? =some e'→e'[c]? =some x'→ ∃e x u,es[off+i]? =some e∧e[c]? =some x∧vs[k.base+((off+i)*k.n+c)]? =some u∧u.oneCell'=true∧aQ J (Own h J) w x u:=by
     intro i e' c x' hi hx;obtain⟨e,he,l1,l2⟩:=src i e' hi;have hcl:=aK hx;have hxe:e[c]? =some (e[c]'(by omega)):=zB (by omega);obtain⟨u,p1,p2,p3⟩:=h6 _ _ _ _ he hxe;exact⟨e,_,u,he,hxe,p1,p2,p3⟩
    refine aQ.ro es' ⟨k.r,k.base+off*k.n,none⟩ k.n cap (fun i c=>(vs[k.base+((off+i)*k.n+c)]?).getD undef) (by omega) h1 (.inr ⟨hh.lt b k hk,hnot⟩) (fun i e' hi=>by obtain⟨e,_,_,l2⟩:=src i e' hi;exact l2) ?_ ?_ ?_
    ·intro i e' c x' hi hx;obtain⟨e,x,u,q1,q2,q3,q4,q5⟩:=cell i e' c x' hi hx;rw [mM,cell_of_heap h4,show k.base+off*k.n+(i*k.n+c)=k.base+((off+i)*k.n+c) by rw [Nat.add_mul];omega,q3];rfl
    ·intro i e' c x' hi hx;obtain⟨e,x,u,q1,q2,q3,q4,q5⟩:=cell i e' c x' hi hx;rw [q3];exact q4
    ·intro i e' c x' hi hx;obtain⟨e,x,u,q1,q2,q3,q4,q5⟩:=cell i e' c x' hi hx;rw [q3];exact ih i e e' c x x' q1 hi q2 hx q5
 | agg cs cs' hl hc ih=>
  intro v hv
  cases hv with
  | agg _ vs hl1 h1 hr=>
   refine .agg cs' vs (by omega) h1 fun i x' v hx' hv=> ?_;have hx:cs[i]? =some (cs[i]'(by have:=aK hx';omega)):=zB _;exact ih i _ x' hx hx' (hr i _ v hx hv)
 | tup cs cs' hl hc ih=>
  intro v hv
  cases hv with
  | tup _ vs hl1 hr=>
   refine .tup cs' vs (by omega) fun i x' v hx' hv=> ?_;have hx:cs[i]? =some (cs[i]'(by have:=aK hx';omega)):=zB _;exact ih i _ x' hx hx' (hr i _ v hx hv)
theorem af.trim {P:Program} {gl:aR} {f:FuncId} {args:List AV} {h:ak} {R R':AV→ak→Prop} (c:af P gl f args h R)
  (hr: ∀x h',R x h'→ ∃x',qy h.length h' x x'∧h.length≤h'.length∧(∀b o,b<h.length→h'[b]? =some o→h[b]? =some o∨(h[b]? ≠some .dead∧Uz h.length o))∧R' x' (h'.take h.length)):af P gl f args h R':=by
 refine⟨c.1,fun J w vs hh hv=>Calls.mono' (c.2 J w vs hh hv) ?_⟩;rintro e w' ⟨x,v,J',h',rfl,q1,q2,q3,q4⟩;obtain⟨x',f1,f2,f3,f4⟩:=hr x h' q4;obtain⟨t,ht⟩:=q3.pre;have hJ:J'.take h.length=J:=by rw [ht,←hh.len,List.take_left]
 have hx:=qy.sound q1 f1 q2;rw [hJ] at hx;have hO: ∀r,Own (h'.take h.length) J r→Own h' J' r:=fun r ho=>Es (n:=h.length) (by rw [hJ];exact ho);have bddO: ∀b o,b<h.length→h'[b]? =some o→Uz h.length o:=by
  intro b o hb ho;rcases f3 b o hb ho with h1 | ⟨_,h1⟩
  ·have hk:J[b]? =some (J[b]'(by rw [hh.len];exact hb)):=zB _;have:=(hh.obj b _ o hk h1).bdd;rwa [hh.len] at this
  ·exact h1
 have ev:jE h J w (h'.take h.length) J w':=by
  refine⟨⟨[],by simp⟩,q3.size,fun r hr' hn=>⟨(q3.keep r hr' hn).1,fun ho=>(q3.keep r hr' hn).2 (hO r ho)⟩,q3.os,q3.tape,q3.output⟩
 have hg: ∀b o,(h'.take h.length)[b]? =some o→b<h.length∧h'[b]? =some o:=by
  intro b o ho;rw [List.getElem?_take] at ho;split at ho
  ·rename_i hb;exact⟨hb,ho⟩
  ·cases ho
 have hJ': ∀b k,J[b]? =some k→J'[b]? =some k:=fun b k hk=>lU ht hk;have hr1:dm gl (h'.take h.length) J w':=by
  refine⟨by rw [hh.len];simp;omega,?_,?_,?_,?_⟩
  ·intro b b' k k' o o' h1 h2 h3 h4;exact q1.inj b b' k k' o o' (hJ' _ _ h1) (hJ' _ _ h2) (hg _ _ h3).2 (hg _ _ h4).2
  ·intro b k hk;exact q1.lt b k (hJ' _ _ hk)
  ·intro b k o hk ho;obtain⟨hb,ho'⟩:=hg b o ho;have:=(q1.obj b k o (hJ' _ _ hk) ho').cut (bddO b o hb ho') hO;rwa [hJ] at this
  ·intro g cs hgl;have hb:=(hh.glob g cs hgl).bdd;rw [hh.len] at hb;have:=(q1.glob g cs hgl).cut hb hO;rwa [hJ] at this
 exact⟨x',v,J,h'.take h.length,rfl,hr1,hx,ev,f4⟩
end Go.Abs
end
section
namespace Go.Abs
open Go
section
variable {P : Program} {gl : aR} {N : Nat} {q : Bool} {ops : Array Oper} {K : aP → ak → Prop} {Q : dN} {fr : aP} {h : ak}
@[simp] theorem YI:Cf P gl N .skip Q fr h↔Q .normal fr h:=Iff.rfl
@[simp] theorem XP (l:Nat):Cf P gl N (.label l) Q fr h↔Q .normal fr h:=Iff.rfl
@[simp] theorem Zp (a b:Code):Cf P gl N (.seq a b) Q fr h↔Cf P gl N a (iY (Cf P gl N b Q) Q) fr h:=Iff.rfl
@[simp] theorem Yy (c:Operand) (x y:Code):Cf P gl N (.cond c x y) Q fr h↔(ev gl fr c).gd=true∧MQ (ev gl fr c).core (uh (Cf P gl N x Q) (Cf P gl N y Q) fr h):=Iff.rfl
@[simp] theorem XG (id:Nat) (c:Code):Cf P gl N (.block id c) Q fr h↔Cf P gl N c (jZ id Q) fr h:=Iff.rfl
@[simp] theorem YA (id:Nat):Cf P gl N (.exit id) Q fr h↔Q (.exit id) fr h:=Iff.rfl
@[simp] theorem Zo:Cf P gl N .ret Q fr h↔Q .ret fr h:=Iff.rfl
@[simp] theorem WG (id:Nat):Cf P gl N (.region id ops false) Q fr h↔iL P gl N false ops ops.toList (Q .normal) fr h:=Iff.rfl
@[simp] theorem Yz (id:Nat):Cf P gl N (.region id ops true) Q fr h↔lH ops=true∧iL P gl N true ops ops.toList (Q .normal) fr h:=Iff.rfl
@[simp] theorem YB (c:Code):Cf P gl N (.loop c) Q fr h↔aW P gl N (.loop c) Q fr h:=Iff.rfl
@[simp] theorem Yj (kx ky:aP→ak→Prop) (t:Bool):uh kx ky fr h t↔(t=true→kx fr h)∧(t=false→ky fr h):=Iff.rfl
@[simp] theorem Y3 (t:Bool) (k:Bool→Prop):MQ (.bool t) k↔k t:=Iff.rfl
@[simp] theorem V8:iY K Q .normal fr h↔K fr h:=Iff.rfl
@[simp] theorem Zk:iY K Q .ret fr h↔Q .ret fr h:=Iff.rfl
@[simp] theorem Yh (id:Nat):iY K Q (.exit id) fr h↔Q (.exit id) fr h:=Iff.rfl
@[simp] theorem UJ (id:Nat):jZ id Q .normal fr h↔Q .normal fr h:=Iff.rfl
@[simp] theorem XX (id:Nat):jZ id Q .ret fr h↔Q .ret fr h:=Iff.rfl
@[simp] theorem WI (id id':Nat):jZ id Q (.exit id') fr h↔if id'=id then Q .normal fr h else Q (.exit id') fr h:=Iff.rfl
@[simp] theorem Yo:iL P gl N q ops [] K fr h↔K fr h:=Iff.rfl
@[simp] theorem nS (o:Oper) (l:List Oper):iL P gl N q ops (o::l) K fr h↔wG P gl N q ops o fr h (iL P gl N q ops l K):=Iff.rfl
@[simp] theorem Yk (d:Option Tmp) (x:AV):AP K fr d x h↔K (gB fr d x) h:=Iff.rfl
@[simp] theorem X7 (x:AV):gB fr none x=fr:=rfl
@[simp] theorem X8 (d t:Nat) (x:AV):gB fr (some d) x t=if t=d then x else fr t:=rfl
@[simp] theorem Yl (args:List AV) (t:Nat):x9 args t=args.getD t .junk:=rfl
@[simp] theorem Xe (fn:Func) (R:AV→ak→Prop):p8 P fn R .ret fr h↔(∀r∈fn.results.toList,EN P h fr r)∧R (EM P h fr fn.results.toList) h:=Iff.rfl
@[simp] theorem Uv (fn:Func) (R:AV→ak→Prop):p8 P fn R .normal fr h↔(∀r∈fn.results.toList,EN P h fr r)∧R (EM P h fr fn.results.toList) h:=Iff.rfl
end
attribute [simp] SG Va Ee WU Sm ND VV JI O6 NF QT.eq_1 QT.eq_2 wG DW agd A8 Jy Vy Gy ev Zz yM tN UQ Wi I5 WZ Jr Xr J4 N8 Tn TQ EN EM ZH OZ Kt I7 Jo Ck Ju Cm Pw JD yw vM Jh Jg aU aS eD tQ eY yl qH SY Js xy isInt jv ui mr oG Sj fty fieldsOf ah aelems Qr Pb OG zg Nn uD Eb N9 SV nI vS pU qJ dL mZ ae ai uB uA slOk AV.solid OY splice Cc nD yj qF hcells hsz hmap isMap hput kH ku nJ nL De dY bC List.getElem?_append List.set_append
@[simp] theorem XZ (b:Bool):(AV.bool b).core=(AV.bool b):=rfl
@[simp] theorem Zx (b:Bool):(AV.bool b).gd=true:=rfl
@[simp] theorem YK (k:IntKind) (n:Int):(AV.int k n).core=(AV.int k n):=rfl
@[simp] theorem ZL (k:IntKind) (n:Int):(AV.int k n).gd=true:=rfl
@[simp] theorem YT (s:List UInt8):(AV.str s).core=(AV.str s):=rfl
@[simp] theorem ZV (s:List UInt8):(AV.str s).gd=true:=rfl
@[simp] theorem YL (x:Value):(AV.lit x).core=(AV.lit x):=rfl
@[simp] theorem ZM (x:Value):(AV.lit x).gd=true:=rfl
@[simp] theorem YJ (l:List AV):(AV.agg l).core=(AV.agg l):=rfl
@[simp] theorem ZK (l:List AV):(AV.agg l).gd=true:=rfl
@[simp] theorem YU (l:List AV):(AV.tup l).core=(AV.tup l):=rfl
@[simp] theorem ZW (l:List AV):(AV.tup l).gd=true:=rfl
@[simp] theorem YN:(AV.nil).core=(AV.nil):=rfl
@[simp] theorem ZO:(AV.nil).gd=true:=rfl
@[simp] theorem Zq:(AV.e0).core=(AV.e0):=rfl
@[simp] theorem aau:(AV.e0).gd=true:=rfl
@[simp] theorem Zt (l:List (List AV)):(AV.ro l).core=(AV.ro l):=rfl
@[simp] theorem aaw (l:List (List AV)):(AV.ro l).gd=true:=rfl
@[simp] theorem YS (l:List (List AV)) (i c:Nat):(AV.rop l i c).core=(AV.rop l i c):=rfl
@[simp] theorem ZU (l:List (List AV)) (i c:Nat):(AV.rop l i c).gd=true:=rfl
@[simp] theorem YQ (b o l:Nat):(AV.own b o l).core=(AV.own b o l):=rfl
@[simp] theorem ZR (b o l:Nat):(AV.own b o l).gd=true:=rfl
@[simp] theorem YR (b i c:Nat):(AV.ptr b i c).core=(AV.ptr b i c):=rfl
@[simp] theorem ZT (b i c:Nat):(AV.ptr b i c).gd=true:=rfl
@[simp] theorem Zr (f:Fn) (a c:List AV):(AV.fn f a c).core=(AV.fn f a c):=rfl
@[simp] theorem aav (f:Fn) (a c:List AV):(AV.fn f a c).gd=true:=rfl
@[simp] theorem YM (b:Nat):(AV.map b).core=(AV.map b):=rfl
@[simp] theorem ZN (b:Nat):(AV.map b).gd=true:=rfl
@[simp] theorem YO (b:Nat):(AV.obj b).core=(AV.obj b):=rfl
@[simp] theorem ZP (b:Nat):(AV.obj b).gd=true:=rfl
@[simp] theorem WM (t:TypeId) (x:AV):(AV.iface t x).core=(AV.iface t x):=rfl
@[simp] theorem Y1 (t:TypeId) (x:AV):(AV.iface t x).gd=true:=rfl
@[simp] theorem X0:(AV.junk).core=(AV.junk):=rfl
@[simp] theorem Zy:(AV.junk).gd=true:=rfl
@[simp] theorem YP (g:Bool) (x:AV):(AV.opt g x).core=x:=rfl
@[simp] theorem ZQ (g:Bool) (x:AV):(AV.opt g x).gd=g:=rfl
attribute [simp] alen.eq_1 alen.eq_2 alen.eq_3 alen.eq_4 lenOk.eq_1 lenOk.eq_2 lenOk.eq_3 lenOk.eq_4 lenOk.eq_5 lenOk.eq_6 lenOk.eq_7 iaddrOk.eq_1 iaddrOk.eq_2 iaddrOk.eq_3 iaddrOk.eq_4 dO.eq_1 dO.eq_2 dO.eq_3 dO.eq_4 loadOk.eq_1 loadOk.eq_2 loadV.eq_1 loadV.eq_2 kw.eq_1 kw.eq_2 faddrOk.eq_1 faddrOk.eq_2
@[simp] theorem Yn (h:ak):alen h .nil=0:=rfl
@[simp] theorem Zn (h:ak):alen h .e0=0:=rfl
@[simp] theorem Ym (h:ak) (x:Value):alen h (.lit x)=0:=rfl
section
variable {P : Program} {gl : aR} {f : FuncId} {args : List AV} {h : ak}
theorem af.data {r:AV} (hd:r.Data)(c:af P gl f args h (fun x h'=>x=r∧ ∃g,h'=h++g)):af P gl f args h (fun x h'=>x=r∧h'=h):=by
 refine c.trim ?_;rintro x h' ⟨rfl,g,rfl⟩;exact⟨_,.data _ hd,by simp,fun b o hb ho=> .inl (by rwa [zC hb] at ho),rfl,by simp⟩
theorem af.fresh {r:AV} (c:af P gl f args h (fun x h'=> ∃g,h'=h++g∧qy h.length (h++g) x r)):af P gl f args h (fun x h'=>x=r∧h'=h):=by
 refine c.trim ?_;rintro x h' ⟨g,rfl,hf⟩;exact⟨_,hf,by simp,fun b o hb ho=> .inl (by rwa [zC hb] at ho),rfl,by simp⟩
end
@[simp] theorem Yg (s s':List UInt8) (p p':Nat):rH s p=rH s' p'↔s=s'∧p=p':=by
 constructor
 ·intro h;simp only [rH,cZ.raw.injEq,Obj.stringIter.injEq,ByteArray.mk.injEq] at h;exact⟨by have:=congrArg Array.toList h.1;simpa using this,h.2⟩
 ·rintro⟨rfl,rfl⟩;rfl
@[simp] theorem XY (b:Bool):(AV.bool b).bval=b:=rfl
@[simp] theorem U3 (b:Bool):yE (.bool b)↔True:=Iff.rfl
end Go.Abs
end
section
namespace Go.Abs
open Go
def Rd (n:Nat)(h:ak)(x:AV)(es:List (List AV)):Prop:=
 (x= .ro es∨ ∃b off all,x= .own b off es.length∧h[b]? =some (.cells n all)∧off+es.length≤all.length∧ ∀i,i<es.length→all[off+i]? =es[i]?)∧ ∀e∈es,e.length=n
variable {P : Program} {n : Nat} {h : ak} {x : AV} {es : List (List AV)}
theorem Rd.append (r:Rd n h x es)(g:ak):Rd n (h++g) x es:=by
 obtain⟨r,hn⟩:=r;refine⟨?_,hn⟩;rcases r with rfl | ⟨b,off,all,rfl,hb,he⟩
 ·exact .inl rfl
 ·refine .inr ⟨b,off,all,rfl,?_,he⟩;rw [zC (zA.1 hb).1];exact hb
theorem Rd.ro (hn: ∀e∈es,e.length=n):Rd n h (.ro es) es:=⟨.inl rfl,hn⟩
theorem Rd.own {b:Nat} (hb:h[b]? =some (.cells n es))(hn: ∀e∈es,e.length=n):Rd n h (.own b 0 es.length) es:=
 ⟨.inr ⟨b,0,es,rfl,hb,by omega,fun i _=>by simp⟩,hn⟩
theorem Rd.core (r:Rd n h x es):x.core=x:=by
 rcases r.1 with rfl | ⟨b,off,all,rfl,_⟩ <;> rfl
theorem Rd.gd (r:Rd n h x es):x.gd=true:=by
 rcases r.1 with rfl | ⟨b,off,all,rfl,_⟩ <;> rfl
theorem Rd.alen (r:Rd n h x es):alen h x=es.length:=by
 rcases r.1 with rfl | ⟨b,off,all,rfl,_⟩ <;> rfl
theorem Rd.lenOk (r:Rd n h x es) {e:TypeId}:lenOk h (.slice e) x↔True:=by
 rcases r.1 with rfl | ⟨b,off,all,rfl,_⟩ <;> simp [Go.Abs.lenOk]
theorem Rd.iaddrOk (r:Rd n h x es) {e:TypeId} (ho:(ax P e).ok=true)(hn:(ax P e).cells=n) {i:Int} (h0:0≤i)(hi:i<es.length):iaddrOk P h (.slice e) x i↔True:=by
 obtain⟨k,rfl⟩:=Int.eq_ofNat_of_zero_le h0;have hk:k<es.length:=by omega
 rcases r with⟨rfl | ⟨b,off,all,rfl,hb,hl,he⟩,hn'⟩
 ·simp [Go.Abs.iaddrOk,ho,hk];rw [hn];exact hn' _ (List.getElem_mem hk)
 ·simp only [Go.Abs.iaddrOk,hcells,hsz,hb,ho,hn];simp;omega
theorem Rd.load (r:Rd n h x es) {e:TypeId} {i:Int} (h0:0≤i)(hi:i<es.length):
  (∃b k,dO P (.slice e) x i= .ptr b k 0∧(hcells h b)[k]? =es[i.toNat]?)∨dO P (.slice e) x i= .rop es i.toNat 0:=by
 obtain⟨k,rfl⟩:=Int.eq_ofNat_of_zero_le h0;have hk:k<es.length:=by omega
 rcases r with⟨rfl | ⟨b,off,all,rfl,hb,hl,he⟩,hn'⟩
 ·right;simp [dO]
 ·left
  refine⟨b,off+k,by simp [dO],?_⟩;simp only [hcells,hb];exact he k hk
theorem Rd.icore (r:Rd n h x es) {e:TypeId} {i:Int} (h0:0≤i)(hi:i<es.length):(dO P (.slice e) x i).core=dO P (.slice e) x i:=by
 rcases r.load (P:=P) (e:=e) h0 hi with⟨b,k,h1,_⟩ | h1 <;> rw [h1] <;> rfl
theorem Rd.igd (r:Rd n h x es) {e:TypeId} {i:Int} (h0:0≤i)(hi:i<es.length):(dO P (.slice e) x i).gd=true:=by
 rcases r.load (P:=P) (e:=e) h0 hi with⟨b,k,h1,_⟩ | h1 <;> rw [h1] <;> rfl
theorem Rd.loadV (r:Rd n h x es) {e t:TypeId} {i:Int} {y:List AV} (h0:0≤i)(hi:i<es.length)(hy:es[i.toNat]? =some y):Go.Abs.loadV P h t (dO P (.slice e) x i)=ui (ax P t) y (0):=by
 rcases r.load (P:=P) (e:=e) h0 hi with⟨b,k,h1,h2⟩ | h1 <;> rw [h1]
 ·show ui _ ((hcells h b).getD k []) 0=_;rw [List.getD_eq_getElem?_getD,h2,hy];rfl
 ·show ui _ (es.getD i.toNat []) 0=_;rw [List.getD_eq_getElem?_getD,hy];rfl
theorem Rd.loadOk (r:Rd n h x es) {e t:TypeId} {i:Int} {y:List AV} (h0:0≤i)(hi:i<es.length)(hy:es[i.toNat]? =some y):Go.Abs.loadOk P h t (dO P (.slice e) x i)↔mr (ax P t) y (0):=by
 rcases r.load (P:=P) (e:=e) h0 hi with⟨b,k,h1,h2⟩ | h1 <;> rw [h1]
 ·rw [hy] at h2;have:=(zA.1 h2).1;show (k<(hcells h b).length∧mr _ ((hcells h b).getD k []) 0)↔_;rw [List.getD_eq_getElem?_getD,h2];exact⟨fun h=>h.2,fun h=>⟨this,h⟩⟩
 ·have:i.toNat<es.length:=(zA.1 hy).1;show (i.toNat<es.length∧mr _ (es.getD i.toNat []) 0)↔_;rw [List.getD_eq_getElem?_getD,hy];exact⟨fun h=>h.2,fun h=>⟨this,h⟩⟩
theorem Rd.faddrOk (r:Rd n h x es) {e:TypeId} {i:Int} (h0:0≤i)(hi:i<es.length):faddrOk (dO P (.slice e) x i)↔True:=by
 rcases r.load (P:=P) (e:=e) h0 hi with⟨b,k,h1,_⟩ | h1 <;> rw [h1] <;> simp [Go.Abs.faddrOk]
theorem Rd.fcore (r:Rd n h x es) {e s:TypeId} {f:Nat} {i:Int} (h0:0≤i)(hi:i<es.length):(kw P s f (dO P (.slice e) x i)).core=kw P s f (dO P (.slice e) x i):=by
 rcases r.load (P:=P) (e:=e) h0 hi with⟨b,k,h1,_⟩ | h1 <;> rw [h1] <;> rfl
theorem Rd.fgd (r:Rd n h x es) {e s:TypeId} {f:Nat} {i:Int} (h0:0≤i)(hi:i<es.length):(kw P s f (dO P (.slice e) x i)).gd=true:=by
 rcases r.load (P:=P) (e:=e) h0 hi with⟨b,k,h1,_⟩ | h1 <;> rw [h1] <;> rfl
theorem Rd.floadV (r:Rd n h x es) {e s t:TypeId} {f:Nat} {i:Int} {y:List AV} (h0:0≤i)(hi:i<es.length)(hy:es[i.toNat]? =some y):Go.Abs.loadV P h t (kw P s f (dO P (.slice e) x i))=ui (ax P t) y (oG (ax P s) f):=by
 rcases r.load (P:=P) (e:=e) h0 hi with⟨b,k,h1,h2⟩ | h1 <;> rw [h1]
 ·show ui _ ((hcells h b).getD k []) (0+oG (ax P s) f)=_;rw [List.getD_eq_getElem?_getD,h2,hy];rw [Nat.zero_add];rfl
 ·show ui _ (es.getD i.toNat []) (0+oG (ax P s) f)=_;rw [List.getD_eq_getElem?_getD,hy];rw [Nat.zero_add];rfl
theorem Rd.floadOk (r:Rd n h x es) {e s t:TypeId} {f:Nat} {i:Int} {y:List AV} (h0:0≤i)(hi:i<es.length)(hy:es[i.toNat]? =some y):Go.Abs.loadOk P h t (kw P s f (dO P (.slice e) x i))↔mr (ax P t) y (oG (ax P s) f):=by
 rcases r.load (P:=P) (e:=e) h0 hi with⟨b,k,h1,h2⟩ | h1 <;> rw [h1]
 ·rw [hy] at h2;have:=(zA.1 h2).1;show (k<(hcells h b).length∧mr _ ((hcells h b).getD k []) (0+oG (ax P s) f))↔_;rw [List.getD_eq_getElem?_getD,h2];rw [Nat.zero_add]
  exact⟨fun h=>h.2,fun h=>⟨this,h⟩⟩
 ·have:i.toNat<es.length:=(zA.1 hy).1;show (i.toNat<es.length∧mr _ (es.getD i.toNat []) (0+oG (ax P s) f))↔_;rw [List.getD_eq_getElem?_getD,hy];rw [Nat.zero_add]
  exact⟨fun h=>h.2,fun h=>⟨this,h⟩⟩
theorem qy.ownD {n b m off len:Nat} {h:ak} {es es':List (List AV)} (hb:h[b]? =some (.cells m es))(hn:n≤b)(hl:off+len≤es.length)(he:es'=(es.drop off).take len)(hd: ∀e∈es',∀x∈e,x.Data):qy n h (.own b off len) (.ro es'):=by
 have hget: ∀(i:Nat) (e e':List AV),es[off+i]? =some e→es'[i]? =some e'→e=e':=by
  intro i e e' h1 h2;subst he;rw [List.getElem?_take] at h2;split at h2
  ·rw [List.getElem?_drop,h1] at h2;exact Option.some.inj h2
  ·cases h2
 refine .own b off len m es es' hn hb hl (by subst he;simp;omega) (fun i e e' h1 h2=>by rw [hget i e e' h1 h2]) ?_;intro i e e' c x x' h1 h2 h3 h4;obtain rfl:=hget i e e' h1 h2;rw [h3] at h4;obtain rfl:=Option.some.inj h4;exact .data x (hd e (zF h2) x (zF h3))
inductive Kr (n:Nat)(h:ak):List AV→List AV→Prop
 | nil:Kr n h [] []
 | cons {x x':AV} {xs xs':List AV} (hx:qy n h x x') (hs:Kr n h xs xs'):Kr n h (x::xs) (x'::xs')
theorem Kr.get {n:Nat} {h:ak} {xs xs':List AV} (f:Kr n h xs xs'):xs'.length=xs.length∧ ∀(i:Nat) (x x':AV),xs[i]? =some x→xs'[i]? =some x'→qy n h x x':=by
 induction f with
 | nil=>exact⟨rfl,by simp⟩
 | cons hx hs ih=>
  refine⟨by simp [ih.1],fun i x x' h1 h2=> ?_⟩
  cases i with
  | zero=>simp at h1 h2;subst h1;subst h2;exact hx
  | succ i=>exact ih.2 i x x' (by simpa using h1) (by simpa using h2)
theorem qy.agg' {n:Nat} {h:ak} {xs xs':List AV} (f:Kr n h xs xs'):qy n h (.agg xs) (.agg xs'):= .agg _ _ f.get.1 f.get.2
theorem qy.tup' {n:Nat} {h:ak} {xs xs':List AV} (f:Kr n h xs xs'):qy n h (.tup xs) (.tup xs'):= .tup _ _ f.get.1 f.get.2
end Go.Abs
end
end
