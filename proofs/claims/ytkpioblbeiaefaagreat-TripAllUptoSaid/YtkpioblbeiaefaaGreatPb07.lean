/- Part 7 of the lemmas below the statements of this seat: AbsLax. -/
import Derived.Test.YtkpioblbeiaefaaGreatPb02
set_option linter.unusedSectionVars false
set_option linter.unusedVariables false
set_option linter.unusedSimpArgs false
set_option linter.unnecessarySimpa false
set_option maxRecDepth 100000
section
namespace Go.Abs
open Go
def sameB (ops:Array Oper)(j m:Nat):Bool:=(List.range ops.size).all fun e=>match ops[e]? with
 | some oe=> !bW oe.op || (decide (e<j)==decide (e<m))
 | none=>true
def O5 (ops:Array Oper)(j m:Nat):Bool:=
 let ms:=masks ops.toList []
 (List.range ops.size).all fun e=>match ops[e]? with
  | some oe=> !bW oe.op || ((!qg ms e j || decide (e<m)) && (!qg ms j e || decide (m≤e)))
  | none=>true
def JA (ops:Array Oper):List (Nat×Nat):=
 (List.range ops.size).flatMap fun j=>match ops[j]? with
  | some o=>if bW o.op || gU o.op then [] else
    (List.range (ops.size+1)).filterMap fun m=>if (m==0 || (match ops[m - 1]? with | some oe=>bW oe.op | none=>false)) && O5 ops j m && !sameB ops j m then some (j,m) else none
  | none=>[]
def Jl (ops:Array Oper):Bool:=
 let ms:=masks ops.toList []
 (List.range ops.size).all fun j=>match ops[j]? with
  | none=>true
  | some oj=>
   (oj.after.toList.all fun e=> !Region.binds .any e || e.on<j) &&
   (List.range j).all fun i=>match ops[i]? with
    | none=>true
    | some oi=>
     ((!(bW oi.op && bW oj.op)) || qg ms i j) &&
     ((match oi.dst with | some t=> !((looks ops oj).contains t || oj.dst==some t) | none=>true) || qg ms i j) &&
     ((match oj.dst with | some t=> !((looks ops oi).contains t) | none=>true) || qg ms i j)
def ny (ops:Array Oper)(L:List (Nat×Nat)):Bool:=Jl ops && (JA ops==L)
section
variable {P : Program} {gl : aR} {J : List eF} {h : ak} {w : World} {fr : aP} {N : Nat} {ops : Array Oper}
structure Cb (ops:Array Oper):Prop where
 early: ∀j o,ops[j]? =some o→ ∀e∈o.after,Region.binds .any e=true→e.on<j
 acts: ∀i j oi oj,ops[i]? =some oi→ops[j]? =some oj→i<j→bW oi.op=true→bW oj.op=true→qx ops i j
 writes: ∀i j oi oj t,ops[i]? =some oi→ops[j]? =some oj→i<j→oi.dst=some t→(t∈looks ops oj∨oj.dst=some t)→qx ops i j
 reads: ∀i j oi oj t,ops[i]? =some oi→ops[j]? =some oj→i<j→oj.dst=some t→t∈looks ops oi→qx ops i j
theorem lG {i j:Nat} (hb:qg (masks ops.toList []) i j=true):qx ops i j:=by
 unfold qg at hb
 cases hx:(masks ops.toList [])[j]? with
 | none=>simp [List.getD,hx] at hb
 | some m=>
  simp [List.getD,hx] at hb;exact uR ops.toList [] (by simp) (by simp) j m hx i hb
theorem rQ (h:Jl ops=true):Cb ops:=by
 have hms: ∀i j,qg (masks ops.toList []) i j=true→qx ops i j:=fun i j=>lG;unfold Jl at h;simp only [List.all_eq_true,List.mem_range] at h;have hj: ∀j o,ops[j]? =some o→j<ops.size:=fun j o ho=>(Array.getElem?_eq_some_iff.1 ho).1;have key: ∀i j oi oj,ops[i]? =some oi→ops[j]? =some oj→i<j→_:=fun i j oi oj hi hjj hij=>by
  have h1:=h j (hj j oj hjj);rw [hjj] at h1;simp only [Bool.and_eq_true,List.all_eq_true,List.mem_range] at h1;have h2:=h1.2 i hij;rw [hi] at h2;exact h2
 refine⟨?_,?_,?_,?_⟩
 ·intro j o ho e he hb;have h1:=h j (hj j o ho);rw [ho] at h1;simp only [Bool.and_eq_true,List.all_eq_true] at h1;have:=h1.1 e (by simpa using he);simpa [hb] using this
 ·intro i j oi oj hi hjj hij a1 a2;have h2:=key i j oi oj hi hjj hij;simp only [Bool.and_eq_true,Bool.or_eq_true] at h2;refine h2.1.1.elim (fun hh=> ?_) (hms i j);simp [a1,a2] at hh
 ·intro i j oi oj t hi hjj hij hd hor;have h2:=key i j oi oj hi hjj hij;simp only [Bool.and_eq_true,Bool.or_eq_true] at h2;refine h2.1.2.elim (fun hh=> ?_) (hms i j);rw [hd] at hh;simp only [Bool.not_eq_true',Bool.or_eq_false_iff] at hh;rcases hor with a1 | a1
  ·have:=hh.1;simp [a1] at this
  ·have:=hh.2;simp [a1] at this
 ·intro i j oi oj t hi hjj hij hd hl;have h2:=key i j oi oj hi hjj hij;simp only [Bool.and_eq_true,Bool.or_eq_true] at h2;refine h2.2.elim (fun hh=> ?_) (hms i j);rw [hd] at hh;simp [hl] at hh
theorem Part.go2 {F:Nat→aP} {H:Nat→ak} {X:Nat→AV} {J0:List eF} {w0:World} (dk:Cb ops)(hF0:F 0=fr)(hH0:H 0=h)
  (tr: ∀j o,j<ops.size→ops[j]? =some o→(∀d,o.dst=some d→d<N)∧bG P gl N ops o (F j) (H j) (X j) (H (j+1))∧(gU o.op=true→ ∀h0,bG P gl N ops o (F j) h0 (X j) h0)∧(bW o.op=false→H (j+1)=H j)∧F (j+1)=gB (F j) o.dst (X j))
  (lax: ∀j o m,ops[j]? =some o→bW o.op=false→gU o.op=false→m≤ops.size→(∀e oe,ops[e]? =some oe→bW oe.op=true→qx ops e j→e<m)→(∀e oe,ops[e]? =some oe→bW oe.op=true→qx ops j e→m≤e)→
   ∃x,bG P gl N ops o (F j) (H m) x (H m)∧gB (F j) o.dst x=gB (F j) o.dst (X j))
  {D:Nat→Bool} {a:Act} {w:World} (p:Part gl N ops fr H X h J0 w0 D a w) {j:Nat} {o:Oper} (ho:ops[j]? =some o) (hD:D j=false) (hready: ∀i,qx ops i j→D i=true)
  {Q:Exit→Act→World→Prop} {next:Act→World→Prop} (hn: ∀a' w',Part gl N ops fr H X h J0 w0 (fun i=>if i=j then true else D i) a' w'→next a' w'):wpOp P ops Q j next a w:=by
 have hj:j<ops.size:=(Array.getElem?_eq_some_iff.1 ho).1;obtain⟨t1,t2,t3,t4,t5⟩:=tr j o hj ho;obtain⟨m,J,hm,hacts,r,ev⟩:=p.rel;have before: ∀i oi,ops[i]? =some oi→i<j→qx ops i j→D i=true:=fun i oi _ _ hd=>hready i hd;have behind: ∀i,qx ops j i→D i=false:=fun i hd=>by
  cases hDi:D i with
  | false=>rfl
  | true=>rw [p.closed j i hd hDi] at hD;cases hD
 have hframe: ∀t,(t∈looks ops o∨o.dst=some t)→(∀i oi,ops[i]? =some oi→j<i→oi.dst=some t→qx ops j i)→FD ops X fr D ops.size t=F j t:=by
  intro t ht hlater;rw [←tY (ops:=ops) (fr:=fr) (X:=X) hF0 j (fun i oi hi hoi=>(tr i oi (by omega) hoi).2.2.2.2) (by omega) j (Nat.le_refl _)];rw [show ops.size=j+(ops.size - j) by omega,qC j (ops.size - j) ?_]
  ·refine om j fun i oi hi hoi hd=> ?_;rw [before i oi hoi hi (dk.writes i j oi o t hoi ho hi hd ht)];simp [hi]
  ·intro i oi h1 h2 hoi hd;by_cases hij:i=j
   ·subst hij;exact hD
   ·exact behind i (hlater i oi hoi (by omega) hd)
 have hlook: ∀t∈looks ops o,FD ops X fr D ops.size t=F j t:=fun t ht=>hframe t (.inl ht) fun i oi hoi hji hd=>dk.reads j i o oi t ho hoi hji hd ht;have hHc: ∀(a:Nat) k,a+k≤ops.size→(∀i o,a≤i→i<a+k→ops[i]? =some o→bW o.op=false)→H (a+k)=H a:=
  lJ (ops:=ops) (n:=ops.size) (fun i oi hi hoi hne=>(tr i oi hi hoi).2.2.2.1 hne) (Nat.le_refl _)
 have hheap:bW o.op=true→H m=H j:=by
  intro hf;have hno: ∀e oe,ops[e]? =some oe→bW oe.op=true→e≠j→(D e=true↔e<j):=by
   intro e oe hoe hae hne;rcases Nat.lt_or_gt_of_ne hne with hlt | hgt
   ·have:=dk.acts e j oe o hoe ho hlt hae hf;simp [before e oe hoe hlt this,hlt]
   ·have:=dk.acts j e o oe ho hoe hgt hf hae;rw [behind e this];simp;omega
  rcases Nat.le_total m j with hmj | hmj
  ·have:=hHc m (j - m) (by omega) (fun i oi h1 h2 hoi=>by
    cases hab:bW oi.op with
    | false=>rfl
    | true=>
     have e1:=(hacts i oi hoi hab);have e2:=(hno i oi hoi hab (by omega));rw [e2] at e1;omega)
   rw [show m+(j - m)=j by omega] at this;exact this.symm
  ·have:=hHc j (m - j) (by omega) (fun i oi h1 h2 hoi=>by
    cases hab:bW oi.op with
    | false=>rfl
    | true=>
     by_cases hij:i=j
     ·subst hij;have e1:=(hacts i oi hoi hab);rw [hD] at e1;simp at e1;omega
     ·have e1:=(hacts i oi hoi hab);have e2:=(hno i oi hoi hab hij);rw [e2] at e1;omega)
   rw [show j+(m - j)=m by omega] at this;exact this
 have hst: ∃m' x,m'≤ops.size∧bG P gl N ops o (F j) (H m) x (H m')∧gB (F j) o.dst x=gB (F j) o.dst (X j)∧(∀e oe,ops[e]? =some oe→bW oe.op=true→((if e=j then true else D e)=true↔e<m')):=by
  have quiet:bW o.op=false→ ∀e oe,ops[e]? =some oe→bW oe.op=true→((if e=j then true else D e)=true↔e<m):=by
   intro hab e oe hoe hae;by_cases hej:e=j
   ·subst hej;rw [ho] at hoe;injection hoe with hoe;subst hoe;rw [hab] at hae;cases hae
   ·rw [if_neg hej];exact hacts e oe hoe hae
  cases hab:bW o.op with
  | false=>
   cases hf:gU o.op with
   | true=>exact⟨m,X j,hm,t3 hf (H m),rfl,quiet hab⟩
   | false=>
    obtain⟨x,hx1,hx2⟩:=lax j o m ho hab hf hm (fun e oe hoe hae hd=>(hacts e oe hoe hae).1 (hready e hd)) (fun e oe hoe hae hd=>by
     have h1:=behind e hd;have h2:=hacts e oe hoe hae;rw [h1] at h2;simp at h2;exact h2)
    exact⟨m,x,hm,hx1,hx2,quiet hab⟩
  | true=>
   have e0:=hheap hab;refine⟨j+1,X j,by omega,by rw [e0];exact t2,rfl,fun e oe hoe hae=> ?_⟩;by_cases hej:e=j
   ·subst hej;simp
   ·rw [if_neg hej];rcases Nat.lt_or_gt_of_ne hej with hlt | hgt
    ·have:=dk.acts e j oe o hoe ho hlt hae hab;simp [before e oe hoe hlt this];omega
    ·have:=dk.acts j e o oe ho hoe hgt hab hae;rw [behind e this];simp;omega
 obtain⟨m',x,hm',hstep,hxx,hacts'⟩:=hst;have hFD: ∀t,FD ops X fr (fun i=>if i=j then true else D i) ops.size t=gB (FD ops X fr D ops.size) o.dst x t:=by
  intro t;by_cases hd:o.dst=some t
  ·have hx':x=X j:=by
    have:=congrFun hxx t;simpa [gB,hd] using this
   simp only [gB,hd,if_true,hx'];have hlate: ∀i oi,j+1≤i→i<j+1+(ops.size - (j+1))→ops[i]? =some oi→oi.dst=some t→(if i=j then true else D i)=false:=by
    intro i oi h1 h2 hoi hdi;rw [if_neg (by omega)];exact behind i (dk.writes j i o oi t ho hoi (by omega) hd (.inr hdi))
   rw [show ops.size=j+1+(ops.size - (j+1)) by omega,qC (D:=fun i=>if i=j then true else D i) (j+1) (ops.size - (j+1)) hlate];simp only [FD,if_true,ho,Option.bind_some,hd,gB]
  ·have:gB (FD ops X fr D ops.size) o.dst x t=FD ops X fr D ops.size t:=by
    cases hdo:o.dst with
    | none=>rfl
    | some d=>
     simp only [gB];rw [if_neg];intro e;exact hd (by rw [hdo,e])
   rw [this];refine om ops.size fun i oi _ hoi hdi=> ?_;by_cases hij:i=j
   ·subst hij;rw [ho] at hoi;injection hoi with hoi;subst hoi;exact absurd hdi hd
   ·simp [hij]
 have hclosed: ∀i k,qx ops i k→(if k=j then true else D k)=true→(if i=j then true else D i)=true:=by
  intro i k hd hk;by_cases hij:i=j
  ·simp [hij]
  ·rw [if_neg hij];by_cases hkj:k=j
   ·subst hkj;exact hready i hd
   ·rw [if_neg hkj] at hk;exact p.closed i k hd hk
 obtain⟨s1,s2⟩:=hstep J a w Q r.heap (fun t ht=>by rw [←hlook t ht];exact r.tmps t);have fin: ∀(v:Value) (J':List eF) (w':World),dm gl (H m') J' w'→aQ J' (Own (H m') J') w' x v→jE (H m) J w (H m') J' w'→next (a.put o.dst v) w':=by
  intro v J' w' q1 q2 q3;refine hn _ _ ⟨hclosed,m',J',hm',hacts',?_,ev.trans q3⟩;have:=Dt q3 r q1 t1 q2;exact⟨this.size,this.defers,fun t=>by rw [hFD t];exact this.tmps t,this.heap⟩
 unfold wpOp;rw [ho];simp only;split
 ·rename_i hw;refine .inl (Oper.wp_mono ?_ (s1 hw));rintro a' w' ⟨v,J',rfl,q1,q2,q3⟩;exact fin v J' w' q1 q2 q3
 ·rename_i hw;obtain⟨e1,q2⟩:=s2 (by simpa using hw);refine fin undef J w (by rw [e1];exact r.heap) (by rw [e1];exact q2) (by rw [e1];exact jE.refl _ _ _)
def kQ (P:Program)(gl:aR)(N:Nat)(ops:Array Oper):List Oper→List aP→List ak→(List aP→List ak→aP→ak→Prop)→aP→ak→Prop
 | [],frs,hs,K,fr,h=>K (frs++[fr]) (hs++[h]) fr h
 | o::l,frs,hs,K,fr,h=>wG P gl N true ops o fr h (kQ P gl N ops l (frs++[fr]) (hs++[h]) K)
def D7 (P:Program)(gl:aR)(N:Nat)(ops:Array Oper)(frs:List aP)(hs:List ak)(j m:Nat):Prop:=match ops[j]? with
 | some o=>wG P gl N true ops o (frs.getD j default) (hs.getD m []) fun fr2 h2=>fr2=frs.getD (j+1) default∧h2=hs.getD m []
 | none=>True
def iJ (P:Program)(gl:aR)(N:Nat)(ops:Array Oper):List (Nat×Nat)→List aP→List ak→Prop
 | [],_,_=>True
 | p::l,frs,hs=>D7 P gl N ops frs hs p.1 p.2∧iJ P gl N ops l frs hs
theorem NH {L:List (Nat×Nat)} {frs:List aP} {hs:List ak} (hl:iJ P gl N ops L frs hs) {p:Nat×Nat} (hp:p∈L):D7 P gl N ops frs hs p.1 p.2:=by
 induction L with
 | nil=>cases hp
 | cons q L ih=>
  rcases List.mem_cons.1 hp with rfl | hp
  ·exact hl.1
  ·exact ih hl.2 hp
theorem pG {K:List aP→List ak→aP→ak→Prop}: ∀(l:List Oper) (i:Nat) (fr:aP) (h:ak) (frs:List aP) (hs:List ak),(∀j,l[j]? =ops[i+j]?)→kQ P gl N ops l frs hs K fr h→
  ∃(F:Nat→aP) (H:Nat→ak) (X:Nat→AV),F i=fr∧H i=h∧K (frs++(List.range' i (l.length+1)).map F) (hs++(List.range' i (l.length+1)).map H) (F (i+l.length)) (H (i+l.length))∧
   ∀j o,i≤j→j<i+l.length→ops[j]? =some o→(∀d,o.dst=some d→d<N)∧bG P gl N ops o (F j) (H j) (X j) (H (j+1))∧(gU o.op=true→ ∀h0,bG P gl N ops o (F j) h0 (X j) h0)∧(bW o.op=false→H (j+1)=H j)∧F (j+1)=gB (F j) o.dst (X j)
 | [],i,fr,h,frs,hs,_,hk=>⟨fun _=>fr,fun _=>h,fun _=> .junk,rfl,rfl,by simpa [List.range',kQ] using hk,fun j o h1 h2=>by simp at h2;omega⟩
 | o::l,i,fr,h,frs,hs,hl,hk=>by
  obtain⟨x,h',p1,p2,p3,p4,p5⟩:=vI hk;obtain⟨F,H,X,f1,f2,f3,f4⟩:=pG l (i+1) (gB fr o.dst x) h' _ _ (fun j=>by have:=hl (j+1);simpa [Nat.add_assoc,Nat.add_comm 1 j] using this) p5;have hF: ∀G:Nat→aP,(∀k,i+1≤k→G k=F k)→(List.range' (i+1) (l.length+1)).map G=(List.range' (i+1) (l.length+1)).map F:=fun G hG=>List.map_congr_left fun k hk=>hG k (List.mem_range'_1.1 hk).1;have hH: ∀G:Nat→ak,(∀k,i+1≤k→G k=H k)→(List.range' (i+1) (l.length+1)).map G=(List.range' (i+1) (l.length+1)).map H:=fun G hG=>List.map_congr_left fun k hk=>hG k (List.mem_range'_1.1 hk).1;refine⟨fun j=>if j≤i then fr else F j,fun j=>if j≤i then h else H j,fun j=>if j≤i then x else X j,by simp,by simp,?_,?_⟩
  ·simp only [List.length_cons];rw [List.range'_succ,List.map_cons,List.map_cons,hF _ (fun k hk=>if_neg (by omega)),hH _ (fun k hk=>if_neg (by omega))];simp only [Nat.le_refl,if_true,if_neg (show ¬i+(l.length+1)≤i by omega)];rw [show i+(l.length+1)=i+1+l.length by omega];simpa using f3
  ·intro j o' h1 h2 ho';simp only [List.length_cons] at h2;by_cases hji:j=i
   ·subst hji;have h0:=hl 0;simp at h0;rw [ho'] at h0;injection h0 with h0;subst h0;simp only [Nat.le_refl,if_true,if_neg (show ¬(j+1≤j) by omega)];rw [f1,f2];exact⟨p1,p2,p3,p4,rfl⟩
   ·simp only [if_neg (show ¬(j≤i) by omega),if_neg (show ¬(j+1≤i) by omega)];exact f4 j o' (by omega) (by omega) ho'
theorem canon (ops:Array Oper): ∀m,m≤ops.size→ ∃c,c≤m∧(c=0∨ ∃oe,0<c∧ops[c - 1]? =some oe∧bW oe.op=true)∧ ∀i o,c≤i→i<m→ops[i]? =some o→bW o.op=false
 | 0,_=>⟨0,Nat.le_refl _,.inl rfl,fun i o h1 h2=>by omega⟩
 | m+1,hm=>by
  have ho:ops[m]? =some (ops[m]'(by omega)):=Array.getElem?_eq_getElem (by omega)
  cases hab:bW (ops[m]'(by omega)).op with
  | true=>exact⟨m+1,Nat.le_refl _,.inr ⟨_,by omega,by simp,hab⟩,fun i o h1 h2=>by omega⟩
  | false=>
   obtain⟨c,h1,h2,h3⟩:=canon ops m (by omega);refine⟨c,by omega,h2,fun i o h4 h5 hoi=> ?_⟩;by_cases hi:i=m
   ·subst hi;rw [ho] at hoi;injection hoi with hoi;subst hoi;exact hab
   ·exact h3 i o h4 (by omega) hoi
theorem xz {F:Nat→aP} {H:Nat→ak} {X:Nat→AV} {L:List (Nat×Nat)} (hL:JA ops=L)
  (tr: ∀j o,0≤j→j<ops.size→ops[j]? =some o→(∀d,o.dst=some d→d<N)∧bG P gl N ops o (F j) (H j) (X j) (H (j+1))∧(gU o.op=true→ ∀h0,bG P gl N ops o (F j) h0 (X j) h0)∧(bW o.op=false→H (j+1)=H j)∧F (j+1)=gB (F j) o.dst (X j))
  (hall:iJ P gl N ops L ((List.range' 0 (ops.size+1)).map F) ((List.range' 0 (ops.size+1)).map H)):
  ∀j o m,ops[j]? =some o→bW o.op=false→gU o.op=false→m≤ops.size→(∀e oe,ops[e]? =some oe→bW oe.op=true→qx ops e j→e<m)→(∀e oe,ops[e]? =some oe→bW oe.op=true→qx ops j e→m≤e)→
   ∃x,bG P gl N ops o (F j) (H m) x (H m)∧gB (F j) o.dst x=gB (F j) o.dst (X j):=by
 intro j o m ho hab hfb hm hc1 hc2;have hj:j<ops.size:=(Array.getElem?_eq_some_iff.1 ho).1;obtain⟨t1,t2,t3,t4,t5⟩:=tr j o (Nat.zero_le _) hj ho;have hHc: ∀(a:Nat) k,a+k≤ops.size→(∀i o,a≤i→i<a+k→ops[i]? =some o→bW o.op=false)→H (a+k)=H a:=
  lJ (ops:=ops) (n:=ops.size) (fun i oi hi hoi hne=>(tr i oi (Nat.zero_le _) hi hoi).2.2.2.1 hne) (Nat.le_refl _)
 obtain⟨c,h1,h2,h3⟩:=canon ops m hm;have hHm:H m=H c:=by
  have:=hHc c (m - c) (by omega) (fun i oi q1 q2=>h3 i oi q1 (by omega));rwa [show c+(m - c)=m by omega] at this
 have hlt: ∀e oe,ops[e]? =some oe→bW oe.op=true→(e<m↔e<c):=by
  intro e oe hoe hae;constructor
  ·intro hem;rcases zN e c with h | h
   ·exact h
   ·rw [h3 e oe h hem hoe] at hae;cases hae
  ·intro h;omega
 rw [hHm];have getF: ∀k,k≤ops.size→((List.range' 0 (ops.size+1)).map F).getD k default=F k:=by
  intro k hk;rw [List.getD_eq_getElem?_getD,List.getElem?_map,List.getElem?_range' (by omega)];simp
 have getH: ∀k,k≤ops.size→((List.range' 0 (ops.size+1)).map H).getD k []=H k:=by
  intro k hk;rw [List.getD_eq_getElem?_getD,List.getElem?_map,List.getElem?_range' (by omega)];simp
 by_cases hs:sameB ops j c=true
 ·have hjc:H j=H c:=by
   unfold sameB at hs;simp only [List.all_eq_true,List.mem_range] at hs;have same: ∀e oe,ops[e]? =some oe→bW oe.op=true→(e<j↔e<c):=by
    intro e oe hoe hae;have:=hs e (Array.getElem?_eq_some_iff.1 hoe).1;rw [hoe] at this;simp only [hae,Bool.not_true,Bool.false_or,beq_iff_eq,decide_eq_decide] at this;exact this
   rcases Nat.le_total c j with hcj | hcj
   ·have:=hHc c (j - c) (by omega) (fun i oi q1 q2 hoi=>by
     cases hb:bW oi.op with
     | false=>rfl
     | true=>have:=(same i oi hoi hb).1 (by omega);omega)
    rwa [show c+(j - c)=j by omega] at this
   ·have:=hHc j (c - j) (by omega) (fun i oi q1 q2 hoi=>by
     cases hb:bW oi.op with
     | false=>rfl
     | true=>have:=(same i oi hoi hb).2 (by omega);omega)
    rw [show j+(c - j)=c by omega] at this;exact this.symm
  refine⟨X j,?_,rfl⟩;have:=t2;rw [t4 hab,hjc] at this;exact this
 ·have hmem:(j,c)∈L:=by
   rw [←hL];unfold JA;rw [List.mem_flatMap];refine⟨j,List.mem_range.2 hj,?_⟩;rw [ho];simp only [hab,hfb,Bool.or_self,Bool.false_eq_true,if_false];rw [List.mem_filterMap];refine⟨c,List.mem_range.2 (by omega),?_⟩;rw [if_pos];simp only [Bool.and_eq_true,Bool.or_eq_true,beq_iff_eq,Bool.not_eq_true'];refine⟨⟨?_,?_⟩,by simpa using hs⟩
   ·rcases h2 with h2 | ⟨oe,_,h2,h4⟩
    ·exact .inl h2
    ·right;rw [h2];exact h4
   ·unfold O5;simp only [List.all_eq_true,List.mem_range];intro e he;have hoe:ops[e]? =some (ops[e]'he):=Array.getElem?_eq_getElem he;rw [hoe]
    cases hae:bW (ops[e]'he).op with
    | false=>simp [hae]
    | true=>
     simp only [hae,Bool.not_true,Bool.false_or,Bool.and_eq_true,Bool.or_eq_true,Bool.not_eq_true',decide_eq_true_eq];refine⟨?_,?_⟩
     ·cases hd:qg (masks ops.toList []) e j with
      | false=>exact .inl rfl
      | true=>exact .inr ((hlt e _ hoe hae).1 (hc1 e _ hoe hae (lG hd)))
     ·cases hd:qg (masks ops.toList []) j e with
      | false=>exact .inl rfl
      | true=>right;have:=hc2 e _ hoe hae (lG hd);omega
  have h5:=NH hall hmem;unfold D7 at h5;rw [ho] at h5;simp only at h5;rw [getF j (by omega),getH c (by omega),getF (j+1) (by omega)] at h5;obtain⟨x,h',_,p2,_,_,p5,p6⟩:=vI h5;rw [p6] at p2;exact⟨x,p2,by rw [p5,t5]⟩
theorem Oc (dk:Cb ops) {listed:Array Bool} (hsz:listed.size=ops.size)(hr:Region.ready .any ops listed=[]): ∀i,i<ops.size→listed.getD i false=true:=by
 intro i
 induction i using Nat.strongRecOn with
 | _ i ih=>
  intro hi
  cases hl:listed.getD i false with
  | true=>rfl
  | false=>
   have ho:ops[i]? =some (ops[i]'hi):=Array.getElem?_eq_getElem hi;have:i∈Region.ready .any ops listed:=mem_ready.2 ⟨by
    rw [Array.getD_eq_getD_getElem?] at hl ⊢;rw [Array.getElem?_eq_getElem (by omega)] at hl ⊢;simpa using hl,_,ho,fun e he hb=>ih e.on (dk.early i _ ho e he hb) (by have:=dk.early i _ ho e he hb;omega)⟩
   rw [hr] at this;cases this
theorem o8 {F:Nat→aP} {H:Nat→ak} {X:Nat→AV} {J0:List eF} {w0:World} (dk:Cb ops)(hF0:F 0=fr)(hH0:H 0=h)
  (tr: ∀j o,j<ops.size→ops[j]? =some o→(∀d,o.dst=some d→d<N)∧bG P gl N ops o (F j) (H j) (X j) (H (j+1))∧(gU o.op=true→ ∀h0,bG P gl N ops o (F j) h0 (X j) h0)∧(bW o.op=false→H (j+1)=H j)∧F (j+1)=gB (F j) o.dst (X j))
  (lax: ∀j o m,ops[j]? =some o→bW o.op=false→gU o.op=false→m≤ops.size→(∀e oe,ops[e]? =some oe→bW oe.op=true→qx ops e j→e<m)→(∀e oe,ops[e]? =some oe→bW oe.op=true→qx ops j e→m≤e)→
   ∃x,bG P gl N ops o (F j) (H m) x (H m)∧gB (F j) o.dst x=gB (F j) o.dst (X j))
  {Q:Exit→Act→World→Prop} (hQ: ∀J a w,qB gl N J (F ops.size) (H ops.size) a w→jE h J0 w0 (H ops.size) J w→Q .normal a w):
  ∀(fuel:Nat) (listed:Array Bool) (a:Act) (w:World),listed.size=ops.size→(fuel=0→Region.ready .any ops listed=[])→(listed.toList.count false≤fuel)→Part gl N ops fr H X h J0 w0 (fun i=>listed.getD i false) a w→wpAny P .any ops Q fuel listed a w:=by
 have fin: ∀(listed:Array Bool) (a:Act) (w:World),listed.size=ops.size→Region.ready .any ops listed=[]→Part gl N ops fr H X h J0 w0 (fun i=>listed.getD i false) a w→Q .normal a w:=by
  intro listed a w hsz hr p;have hall:=Oc dk hsz hr;obtain⟨m,J,hm,hacts,r,ev⟩:=p.rel;have hHm:H m=H ops.size:=by
   have:=lJ (ops:=ops) (n:=ops.size) (fun i oi hi hoi hne=>(tr i oi hi hoi).2.2.2.1 hne) (Nat.le_refl _) m (ops.size - m) (by omega) (fun i oi h1 h2 hoi=>by
    cases hab:bW oi.op with
    | false=>rfl
    | true=>
     have:=(hacts i oi hoi hab).1 (hall i (by omega));omega)
   rw [show m+(ops.size - m)=ops.size by omega] at this;exact this.symm
  have hFF: ∀t,FD ops X fr (fun i=>listed.getD i false) ops.size t=F ops.size t:=by
   intro t;rw [←tY (ops:=ops) (fr:=fr) (X:=X) hF0 ops.size (fun i oi hi hoi=>(tr i oi hi hoi).2.2.2.2) (Nat.le_refl _) ops.size (Nat.le_refl _)];exact om ops.size fun i oi hi _ _=>by rw [hall i hi];simp [hi]
  refine hQ J a w ⟨r.size,r.defers,fun t=> ?_,?_⟩ ?_
  ·rw [←hFF t,←hHm];exact r.tmps t
  ·rw [←hHm];exact r.heap
  ·rw [←hHm];exact ev
 intro fuel
 induction fuel with
 | zero=>
  intro listed a w hsz h0 _ p;exact⟨h0 rfl,fin listed a w hsz (h0 rfl) p⟩
 | succ fuel ih=>
  intro listed a w hsz _ hc p;refine⟨fun hr=>fin listed a w hsz hr p,fun i hi=> ?_⟩;obtain⟨hun,o,ho,hall⟩:=mem_ready.1 hi;have hil:i<listed.size:=by rw [hsz];exact (Array.getElem?_eq_some_iff.1 ho).1
  have hD:listed.getD i false=false:=by
   rw [Array.getD_eq_getD_getElem?,Array.getElem?_eq_getElem hil] at hun ⊢;simpa using hun
  have hready: ∀k,qx ops k i→listed.getD k false=true:=by
   intro k hd;generalize hii:i=i' at hd
   induction hd with
   | base a b ob e hob he hb hon=>
    subst hii;rw [ho] at hob;injection hob with hob;subst hob;rw [←hon];exact hall e he hb
   | trans a b c h1 h2 _ ih2=>
    exact p.closed a b h1 (ih2 hii)
  refine Part.go2 dk hF0 hH0 tr lax p ho hD hready fun a' w' p'=> ?_;have hD': ∀k,(listed.setIfInBounds i true).getD k false=if k=i then true else listed.getD k false:=by
   intro k;by_cases hk:k=i
   ·subst hk;rw [Array.getD_eq_getD_getElem?,Array.getElem?_setIfInBounds_self_of_lt hil];simp
   ·rw [Array.getD_eq_getD_getElem?,Array.getElem?_setIfInBounds_ne (Ne.symm hk),←Array.getD_eq_getD_getElem?];simp [hk]
  have hcount:(listed.setIfInBounds i true).toList.count false+1=listed.toList.count false:=by
   rw [Array.toList_setIfInBounds];have hli:listed.toList[i]? =some false:=by
    rw [Array.getD_eq_getD_getElem?] at hD
    cases hx:listed[i]? with
    | none=>rw [Array.getElem?_eq_getElem hil] at hx;cases hx
    | some b=>rw [hx] at hD;simp at hD;subst hD;simpa using hx
   obtain⟨hlt,heq⟩:=zA.1 hli;rw [List.count_set hlt];rw [heq];have hpos:0<listed.toList.count false:=List.count_pos_iff.2 (by rw [←heq];exact List.getElem_mem hlt);have e1:(if (false==false)=true then 1 else 0)=1:=rfl;have e2:(if (true==false)=true then 1 else 0)=0:=rfl;rw [e1,e2];omega
  refine ih _ a' w' (by simp [hsz]) ?_ (by omega) ?_
  ·intro h0;have hcz:(listed.setIfInBounds i true).toList.count false=0:=by omega
   cases hr:Region.ready .any ops (listed.setIfInBounds i true) with
   | nil=>rfl
   | cons k ks=>
    have hk:k∈Region.ready .any ops (listed.setIfInBounds i true):=by rw [hr];simp
    obtain⟨hun',ok,hok,_⟩:=mem_ready.1 hk;have hkl:k<(listed.setIfInBounds i true).size:=by simp [hsz];exact (Array.getElem?_eq_some_iff.1 hok).1
    rw [Array.getD_eq_getD_getElem?,Array.getElem?_eq_getElem hkl] at hun';simp only [Option.getD_some] at hun';have:false∈(listed.setIfInBounds i true).toList:=by
     rw [←hun'];exact Array.getElem_mem_toList hkl
    have:=List.count_pos_iff.2 this;omega
  ·have hfun:(fun k=>(listed.setIfInBounds i true).getD k false)=(fun k=>if k=i then true else listed.getD k false):=funext hD';rw [hfun];exact p'
theorem aW.region_lax {id:Nat} {Q:dN} (L:List (Nat×Nat))(hm:P.follows .mixedOrders=true)(hd:ny ops L=true)(hs:kQ P gl N ops ops.toList [] [] (fun frs hs fr h=>iJ P gl N ops L frs hs∧Q .normal fr h) fr h):aW P gl N (.region id ops true) Q fr h:=by
 intro J a w r;simp only [ny,Bool.and_eq_true,beq_iff_eq] at hd;have dk:=rQ hd.1;obtain⟨F,H,X,f1,f2,f30,f4⟩:=pG ops.toList 0 fr h [] [] (by simp) hs;simp only [Nat.zero_add,Array.length_toList,List.nil_append] at f30 f4;obtain⟨hlax,f3⟩:=f30;have lax:=xz hd.2 f4 hlax;obtain⟨hdr,evd⟩:=r.heap.drew;refine wp_region_any hm ?_;refine o8 (F:=F) (H:=H) (X:=X) (fr:=fr) (h:=h) (J0:=J) (w0:=w) dk f1 f2 (fun j o hj ho=>f4 j o (Nat.zero_le _) hj ho) lax (Q:=lift gl N h J w Q) ?_ ops.size _ a _ (by simp) ?_ (by simp) ?_
 ·intro J' a' w' r' ev';exact⟨J',F ops.size,H ops.size,r',ev',f3⟩
 ·intro h0;have:ops= #[]:=Array.eq_empty_of_size_eq_zero h0;subst this;rfl
 ·refine⟨fun i j _ hj=> ?_,0,J,Nat.zero_le _,fun e o ho hae=> ?_,?_,?_⟩
  ·exfalso
   simp only [Array.getD_eq_getD_getElem?] at hj
   cases hx:(Array.replicate ops.size false)[j]? with
   | none=>rw [hx] at hj;simp at hj
   | some b=>
    rw [hx] at hj;rw [Array.getElem?_replicate] at hx;split at hx <;> simp_all
  ·have he:e<ops.size:=(Array.getElem?_eq_some_iff.1 ho).1;simp [he]
  ·have hfd: ∀n,FD ops X fr (fun i=>(Array.replicate ops.size false).getD i false) n=fr:=by
    intro n
    induction n with
    | zero=>rfl
    | succ n ih=>
     simp only [FD];rw [if_neg,ih];intro hh;simp only [Array.getD_eq_getD_getElem?] at hh
     cases hx:(Array.replicate ops.size false)[n]? with
     | none=>rw [hx] at hh;simp at hh
     | some b=>
      rw [hx] at hh;rw [Array.getElem?_replicate] at hx;split at hx <;> simp_all
   rw [hfd,f2];exact⟨r.size,r.defers,fun t=>(r.tmps t).evo evd,hdr⟩
  ·rw [f2];exact evd
end
def nE (P:Program)(gl:aR)(N:Nat)(lx:Nat→Option (List (Nat×Nat))):Code→dN→aP→ak→Prop
 | .skip,Q,fr,h=>Q .normal fr h
 | .label _,Q,fr,h=>Q .normal fr h
 | .seq a b,Q,fr,h=>nE P gl N lx a (iY (nE P gl N lx b Q) Q) fr h
 | .cond c x y,Q,fr,h=>(ev gl fr c).gd=true∧MQ (ev gl fr c).core (uh (nE P gl N lx x Q) (nE P gl N lx y Q) fr h)
 | .block id c,Q,fr,h=>nE P gl N lx c (jZ id Q) fr h
 | .exit id,Q,fr,h=>Q (.exit id) fr h
 | .ret,Q,fr,h=>Q .ret fr h
 | .region _ ops false,Q,fr,h=>iL P gl N false ops ops.toList (Q .normal) fr h
 | .region id ops true,Q,fr,h=>match lx id with
  | none=>lH ops=true∧iL P gl N true ops ops.toList (Q .normal) fr h
  | some L=>ny ops L=true∧kQ P gl N ops ops.toList [] [] (fun frs hs fr h=>iJ P gl N ops L frs hs∧Q .normal fr h) fr h
 | .loop c,Q,fr,h=>aW P gl N (.loop c) Q fr h
 | _,_,_,_=>False
section
variable {P : Program} {gl : aR} {N : Nat} {fr : aP} {h : ak} {lx : Nat → Option (List (Nat × Nat))}
theorem aW.of_awpL (lx:Nat→Option (List (Nat×Nat)))(hm:P.follows .mixedOrders=true): ∀(c:Code) (Q:dN) (fr:aP) (h:ak),nE P gl N lx c Q fr h→aW P gl N c Q fr h
 | .skip,Q,fr,h,hs=>aW.skip hs
 | .label _,Q,fr,h,hs=>aW.label hs
 | .seq a b,Q,fr,h,hs=>by
  refine aW.seq ((aW.of_awpL lx hm a _ fr h hs).mono ?_);intro e fr' h' q
  cases e with
  | normal=>exact aW.of_awpL lx hm b Q fr' h' q
  | _=>exact q
 | .cond c x y,Q,fr,h,hs=>by
  obtain⟨hg,hs⟩:=hs;unfold MQ at hs;split at hs
  ·rename_i t ht;intro J a w r;have re:=(qN (a:=a) r.heap (fun t' _=>r.tmps t'):aQ J (Own h J) w (ev gl fr c) (a.eval c)).core hg;rw [ht] at re;have hc:a.eval c= .bool t:=by
    generalize a.eval c=v at re;cases re
    rfl
   refine wp_cond hc ?_
   cases t with
   | true=>exact aW.of_awpL lx hm x Q fr h (hs.1 rfl) J a w r
   | false=>exact aW.of_awpL lx hm y Q fr h (hs.2 rfl) J a w r
  ·exact hs.elim
 | .block id c,Q,fr,h,hs=>aW.block (aW.of_awpL lx hm c _ fr h hs)
 | .exit id,Q,fr,h,hs=>aW.exit hs
 | .ret,Q,fr,h,hs=>aW.ret hs
 | .region _ ops false,Q,fr,h,hs=>aW.region hs
 | .region id ops true,Q,fr,h,hs=>by
  simp only [nE] at hs
  cases hl:lx id with
  | none=>rw [hl] at hs;exact aW.region_draw hm hs.1 hs.2
  | some L=>rw [hl] at hs;exact aW.region_lax L hm hs.1 hs.2
 | .loop c,Q,fr,h,hs=>hs
 | .rangeFunc ..,_,_,_,hs=>hs.elim
 | .scope _,_,_,_,hs=>hs.elim
 | .goto _,_,_,_,hs=>hs.elim
 | .refuse _,_,_,_,hs=>hs.elim
theorem af.bodyL {f:FuncId} (lx:Nat→Option (List (Nat×Nat)))(fn:Func)(c:Code) {args:List AV} {R:AV→ak→Prop} (hm:P.follows .mixedOrders=true)(hf:P.funcs[f]? =some fn)(hb:fn.body=some c)(hname:(fn.name== "runtime.NumGoroutine")=false)
  (hn:args.length≤fn.ntmps) (hc:nE P gl fn.ntmps lx c (p8 P fn R) (x9 args) h):af P gl f args h R:=
 af.of_body' hf hb hname hn (aW.of_awpL lx hm c _ _ _ hc)
theorem aW.upL {c:Code} {Q:dN} (lx:Nat→Option (List (Nat×Nat)))(hm:P.follows .mixedOrders=true)(n:Nat)(I:Nat→aP→ak→Prop)(k:Nat)(hk:k≤n)(h0:I k fr h)
  (round: ∀k fr h,k≤n→I k fr h→nE P gl N lx c (iY (fun fr' h'=> ∃k',k<k'∧k'≤n∧I k' fr' h') Q) fr h):aW P gl N (.loop c) Q fr h:=
 aW.loop_up n I k hk h0 fun k fr h h1 h2=>aW.of_awpL lx hm c _ _ _ (round k fr h h1 h2)
end
section
variable {P : Program} {gl : aR} {N : Nat} {Q : dN} {fr : aP} {h : ak} {lx : Nat → Option (List (Nat × Nat))} {ops : Array Oper}
@[simp] theorem XU:nE P gl N lx .skip Q fr h↔Q .normal fr h:=Iff.rfl
@[simp] theorem WC (l:Nat):nE P gl N lx (.label l) Q fr h↔Q .normal fr h:=Iff.rfl
@[simp] theorem YF (a b:Code):nE P gl N lx (.seq a b) Q fr h↔nE P gl N lx a (iY (nE P gl N lx b Q) Q) fr h:=Iff.rfl
@[simp] theorem XH (c:Operand) (x y:Code):nE P gl N lx (.cond c x y) Q fr h↔(ev gl fr c).gd=true∧MQ (ev gl fr c).core (uh (nE P gl N lx x Q) (nE P gl N lx y Q) fr h):=Iff.rfl
@[simp] theorem Wz (id:Nat) (c:Code):nE P gl N lx (.block id c) Q fr h↔nE P gl N lx c (jZ id Q) fr h:=Iff.rfl
@[simp] theorem XM (id:Nat):nE P gl N lx (.exit id) Q fr h↔Q (.exit id) fr h:=Iff.rfl
@[simp] theorem YC:nE P gl N lx .ret Q fr h↔Q .ret fr h:=Iff.rfl
@[simp] theorem VF (id:Nat):nE P gl N lx (.region id ops false) Q fr h↔iL P gl N false ops ops.toList (Q .normal) fr h:=Iff.rfl
@[simp] theorem XQ (c:Code):nE P gl N lx (.loop c) Q fr h↔aW P gl N (.loop c) Q fr h:=Iff.rfl
@[simp] theorem XK (id:Nat) (ops:Array Oper):nE P gl N lx (.region id ops true) Q fr h↔(match lx id with
  | none=>lH ops=true∧iL P gl N true ops ops.toList (Q .normal) fr h
  | some L=>ny ops L=true∧kQ P gl N ops ops.toList [] [] (fun frs hs fr h=>iJ P gl N ops L frs hs∧Q .normal fr h) fr h):=Iff.rfl
@[simp] theorem XA (ops:Array Oper) (frs:List aP) (hs:List ak) (K:List aP→List ak→aP→ak→Prop):kQ P gl N ops [] frs hs K fr h↔K (frs++[fr]) (hs++[h]) fr h:=Iff.rfl
@[simp] theorem Wt (ops:Array Oper) (o:Oper) (l:List Oper) (frs:List aP) (hs:List ak) (K:List aP→List ak→aP→ak→Prop):kQ P gl N ops (o::l) frs hs K fr h↔wG P gl N true ops o fr h (kQ P gl N ops l (frs++[fr]) (hs++[h]) K):=Iff.rfl
@[simp] theorem Xd (ops:Array Oper) (frs:List aP) (hs:List ak):iJ P gl N ops [] frs hs↔True:=Iff.rfl
@[simp] theorem VR (ops:Array Oper) (p:Nat×Nat) (L:List (Nat×Nat)) (frs:List aP) (hs:List ak):iJ P gl N ops (p::L) frs hs↔D7 P gl N ops frs hs p.1 p.2∧iJ P gl N ops L frs hs:=Iff.rfl
end
attribute [simp] D7
end Go.Abs
end
section
namespace Go.Abs
open Go
def au (ops:Array Oper)(z:Nat):Array Oper:=(ops.toList.take z).toArray
def Bw (ops:Array Oper)(z:Nat):Bool:=
 let ms:=masks ops.toList []
 (decide (z≤ops.size)) &&
 (List.range ops.size).all fun j=>match ops[j]? with
  | none=>true
  | some oj=>(oj.after.toList.all fun e=> !Region.binds .any e || e.on<j) && (match oj.guard with | some (k,_)=>decide (z≤j) || decide (k<z) | none=>true) && (decide (j<z) || (List.range j).all fun i=>qg ms i j)
structure CJ (ops:Array Oper)(z:Nat):Prop where
 le:z≤ops.size
 early: ∀j o,ops[j]? =some o→ ∀e∈o.after,Region.binds .any e=true→e.on<j
 guard: ∀j o k b,ops[j]? =some o→j<z→o.guard=some (k,b)→k<z
 dep: ∀i j,z≤j→j<ops.size→i<j→qx ops i j
section
variable {P : Program} {ops : Array Oper} {z : Nat}
theorem Ff (h:Bw ops z=true):CJ ops z:=by
 unfold Bw at h;simp only [Bool.and_eq_true,decide_eq_true_eq,List.all_eq_true,List.mem_range] at h;obtain⟨h0,h1⟩:=h;have hs: ∀j o,ops[j]? =some o→j<ops.size:=fun j o ho=>(Array.getElem?_eq_some_iff.1 ho).1;refine⟨h0,fun j o ho e he hb=> ?_,fun j o k b ho hj hg=> ?_,fun i j hz hj hij=> ?_⟩
 ·have:=h1 j (hs j o ho);rw [ho] at this;simp only [Bool.and_eq_true,List.all_eq_true] at this;have:=this.1.1 e (by simpa using he);simpa [hb] using this
 ·have:=h1 j (hs j o ho);rw [ho] at this;simp only [Bool.and_eq_true,hg] at this;have:=this.1.2;simp only [Bool.or_eq_true,decide_eq_true_eq] at this;omega
 ·have ho:ops[j]? =some (ops[j]'hj):=Array.getElem?_eq_getElem hj;have:=h1 j hj;rw [ho] at this;simp only [Bool.and_eq_true,Bool.or_eq_true,decide_eq_true_eq,List.all_eq_true,List.mem_range] at this;rcases this.2 with h2 | h2
  ·omega
  ·exact lG (h2 i hij)
theorem qx.lt (s:CJ ops z) {i j:Nat} (h:qx ops i j):i<j:=by
 induction h with
 | base i j o e ho he hb hon=>rw [←hon];exact s.early j o ho e he hb
 | trans i k j _ _ h1 h2=>omega
def Closed (ops:Array Oper)(listed:Array Bool):Prop:= ∀i j,qx ops i j→listed.getD j false=true→listed.getD i false=true
theorem gH {l:Array Bool} {i:Nat} (hi:i<l.size)(k:Nat):(l.setIfInBounds i true).getD k false=if k=i then true else l.getD k false:=by
 by_cases hk:k=i
 ·subst hk;rw [Array.getD_eq_getD_getElem?,Array.getElem?_setIfInBounds_self_of_lt hi];simp
 ·rw [Array.getD_eq_getD_getElem?,Array.getElem?_setIfInBounds_ne (Ne.symm hk),←Array.getD_eq_getD_getElem?];simp [hk]
theorem kR {l:Array Bool} {i:Nat} (hi:i<l.size)(h:l.getD i false=false):(l.setIfInBounds i true).toList.count false+1=l.toList.count false:=by
 rw [Array.toList_setIfInBounds];have hli:l.toList[i]? =some false:=by
  rw [Array.getD_eq_getD_getElem?,Array.getElem?_eq_getElem hi] at h;rw [Array.getElem?_toList,Array.getElem?_eq_getElem hi];simpa using h
 obtain⟨hlt,heq⟩:=zA.1 hli;rw [List.count_set hlt,heq];have hpos:0<l.toList.count false:=List.count_pos_iff.2 (by rw [←heq];exact List.getElem_mem hlt);have e1:(if (false==false)=true then 1 else 0)=1:=rfl;have e2:(if (true==false)=true then 1 else 0)=0:=rfl;rw [e1,e2];omega
theorem vW {listed:Array Bool} (hc:Closed ops listed) {i:Nat} {o:Oper} (ho:ops[i]? =some o)(hall: ∀e∈o.after,Region.binds .any e=true→listed.getD e.on false=true): ∀k,qx ops k i→listed.getD k false=true:=by
 intro k hd;generalize hii:i=i' at hd
 induction hd with
 | base a b ob e hob he hb hon=>
  subst hii;rw [ho] at hob;injection hob with hob;subst hob;rw [←hon];exact hall e he hb
 | trans a b c h1 h2 _ ih2=>exact hc a b h1 (ih2 hii)
theorem ed {listed:Array Bool} (hs:listed.size=ops.size) {i:Nat}:i∈Region.ready .any ops listed↔listed.getD i false=false∧ ∃o,ops[i]? =some o∧ ∀e∈o.after,Region.binds .any e=true→listed.getD e.on false=true:=by
 rw [mem_ready];constructor
 ·rintro⟨h1,o,ho,h2⟩;have hi:i<listed.size:=by rw [hs];exact (Array.getElem?_eq_some_iff.1 ho).1
  refine⟨?_,o,ho,h2⟩;rw [Array.getD_eq_getD_getElem?,Array.getElem?_eq_getElem hi] at h1 ⊢;simpa using h1
 ·rintro⟨h1,o,ho,h2⟩;have hi:i<listed.size:=by rw [hs];exact (Array.getElem?_eq_some_iff.1 ho).1
  refine⟨?_,o,ho,h2⟩;rw [Array.getD_eq_getD_getElem?,Array.getElem?_eq_getElem hi] at h1 ⊢;simpa using h1
theorem M5 (s:CJ ops z) {Q:Exit→Act→World→Prop}: ∀(fuel:Nat) (listed:Array Bool) (k:Nat) (a:Act) (w:World),listed.size=ops.size→(∀i,i<ops.size→(listed.getD i false=true↔i<k))→z≤k→k≤ops.size→ops.size - k≤fuel→
  FL P ops Q (ops.toList.drop k) a w→wpAny P .any ops Q fuel listed a w:=by
 intro fuel
 induction fuel with
 | zero=>
  intro listed k a w hsz hl hz hk hf hw;have hke:k=ops.size:=by omega
  have hnil:Region.ready .any ops listed=[]:=by
   cases hr:Region.ready .any ops listed with
   | nil=>rfl
   | cons i l=>
    obtain⟨h1,o,ho,_⟩:=(ed hsz).1 (by rw [hr];simp:i∈Region.ready .any ops listed);have hi:=(Array.getElem?_eq_some_iff.1 ho).1;rw [(hl i hi).2 (by omega)] at h1;cases h1
  rw [zH (by simp;omega)] at hw;exact⟨hnil,hw⟩
 | succ fuel ih=>
  intro listed k a w hsz hl hz hk hf hw;refine⟨fun hr=> ?_,fun i hi=> ?_⟩
  ·by_cases hke:k=ops.size
   ·rw [zH (by simp;omega)] at hw;exact hw
   ·exfalso
    have hko:ops[k]? =some (ops[k]'(by omega)):=Array.getElem?_eq_getElem (by omega);have:k∈Region.ready .any ops listed:=(ed hsz).2 ⟨by
     cases h:listed.getD k false with
     | false=>rfl
     | true=>have:=(hl k (by omega)).1 h;omega,_,hko,fun e he hb=>by
      have:=s.early k _ hko e he hb;exact (hl e.on (by omega)).2 this⟩
    rw [hr] at this;cases this
  ·obtain⟨h1,o,ho,h2⟩:=(ed hsz).1 hi;have hil:=(Array.getElem?_eq_some_iff.1 ho).1;have hc:Closed ops listed:=fun p q hd hq=>by
    have hlt:=hd.lt s;by_cases hq2:q<ops.size
    ·exact (hl p (by omega)).2 (by have:=(hl q hq2).1 hq;omega)
    ·rw [Array.getD_eq_getD_getElem?,Array.getElem?_eq_none (by omega)] at hq;cases hq
   have hki: ¬i<k:=fun h=>by rw [(hl i hil).2 h] at h1;cases h1
   have hik:i=k:=by
    by_cases h:i=k
    ·exact h
    ·have:=vW hc ho h2 k (s.dep k i (by omega) hil (by omega));have:=(hl k (by omega)).1 this;omega
   subst hik;have hd:ops.toList.drop i=o::ops.toList.drop (i+1):=by
    rw [List.drop_eq_getElem_cons (by simpa using hil)];congr 1
    have:=(Array.getElem?_eq_some_iff.1 ho).2;simpa using this
   rw [hd] at hw;have next: ∀a' w',FL P ops Q (ops.toList.drop (i+1)) a' w'→wpAny P .any ops Q fuel (listed.setIfInBounds i true) a' w':=fun a' w' hw'=>
    ih _ (i+1) a' w' (by simp [hsz]) (fun q hq=>by
     rw [gH (by omega)];by_cases h:q=i
     ·simp [h]
     ·rw [if_neg h,hl q hq];omega) (by omega) (by omega) (by omega) hw'
   unfold wpOp;rw [ho];simp only [FL] at hw ⊢;split at hw
   ·rename_i hwt;rw [if_pos hwt];exact .inl (Oper.wp_mono next hw)
   ·rename_i hwt;rw [if_neg hwt];exact next _ _ hw
theorem FM {Q Q':Exit→Act→World→Prop} (hq: ∀e a w,Q e a w→Q' e a w): ∀(l:List Oper) (a:Act) (w:World),FL P ops Q l a w→FL P ops Q' l a w
 | [],a,w,h=>hq _ _ _ h
 | o::l,a,w,h=>by
  simp only [FL] at h ⊢;split at h
  ·rename_i hw;rw [if_pos hw];have h4:=Oper.wp_mono (fun a w=>FM hq l a w) h;unfold Oper.wp at h4 ⊢;generalize (execOp a.eval o).run P w=r at h4 ⊢
   cases r with
   | ok n w'=>
    cases n <;> simp only [Oper.upon] at h4 ⊢ <;>
     first
      | exact h4
      | exact Calls.mono h4 (fun e w'' he=>by cases e <;> first | exact he | exact hq _ _ _ he | exact he.imp fun _=>Exists.imp fun _=>hq _ _ _)
   | halt x w'=>cases x <;> simp only [Oper.upon] at h4 ⊢ <;> first | exact hq _ _ _ h4 | exact h4
  ·rename_i hw;rw [if_neg hw];exact FM hq l _ _ h
def LP (P:Program)(ops:Array Oper)(z:Nat)(Q:Exit→Act→World→Prop):Exit→Act→World→Prop
 | .normal,a,w=>FL P ops Q (ops.toList.drop z) a w
 | e,a,w=>Q e a w
theorem JQ {i:Nat} (hi:i<z):(au ops z)[i]? =ops[i]? :=by
 simp only [au,List.getElem?_toArray];rw [List.getElem?_take_of_lt hi,Array.getElem?_toList]
theorem yR (hz:z≤ops.size):(au ops z).size=z:=by simp [au,hz]
theorem P5 (s:CJ ops z) {Q:Exit→Act→World→Prop}: ∀(fuelA:Nat) (listedA:Array Bool) (fuel:Nat) (listed:Array Bool) (a:Act) (w:World),listedA.size=z→listed.size=ops.size→(∀i,i<z→listed.getD i false=listedA.getD i false)→(∀i,z≤i→listed.getD i false=false)→
  listedA.toList.count false≤fuelA→listed.toList.count false≤fuel→Closed ops listed→wpAny P .any (au ops z) (LP P ops z Q) fuelA listedA a w→wpAny P .any ops Q fuel listed a w:=by
 intro fuelA;have small: ∀(listedA:Array Bool) (fuel:Nat) (listed:Array Bool) (a:Act) (w:World),listedA.size=z→listed.size=ops.size→(∀i,i<z→listed.getD i false=listedA.getD i false)→(∀i,z≤i→listed.getD i false=false)→
   listed.toList.count false≤fuel→(∀i,i<z→listedA.getD i false=true)→LP P ops z Q .normal a w→wpAny P .any ops Q fuel listed a w:=by
  intro listedA fuel listed a w hA hsz hsame hrest hf hall hq;refine M5 s fuel listed z a w hsz (fun i hi=> ?_) (Nat.le_refl _) s.le ?_ hq
  ·by_cases h:i<z
   ·rw [hsame i h,hall i h];simp [h]
   ·rw [hrest i (by omega)];simp [h]
  ·have:(listed.toList.drop z).count false=ops.size - z:=by
    rw [List.count_eq_length.2]
    ·simp [hsz]
    ·intro b hb;obtain⟨i,hi⟩:=List.getElem?_of_mem hb;rw [List.getElem?_drop,Array.getElem?_toList] at hi;have:=hrest (z+i) (by omega);rw [Array.getD_eq_getD_getElem?,hi] at this;simpa using this.symm
   have h2:listed.toList.count false=(listed.toList.take z).count false+(listed.toList.drop z).count false:=by rw [←List.count_append,List.take_append_drop]
   omega
 have minimal: ∀(listed:Array Bool),listed.size=ops.size→(∃i,i<z∧listed.getD i false=false)→ ∃i,i<z∧i∈Region.ready .any ops listed:=by
  rintro listed hsz ⟨i,hi,hl⟩
  induction i using Nat.strongRecOn with
  | _ i ih=>
   have hile:=s.le;have ho:ops[i]? =some (ops[i]'(by omega)):=Array.getElem?_eq_getElem (by omega);by_cases h: ∃e∈(ops[i]'(by omega)).after,Region.binds .any e=true∧listed.getD e.on false=false
   ·obtain⟨e,he,hb,hf⟩:=h;have:=s.early i _ ho e he hb;exact ih e.on this (by omega) hf
   ·refine⟨i,hi,(ed hsz).2 ⟨hl,_,ho,fun e he hb=> ?_⟩⟩
    cases hx:listed.getD e.on false with
    | true=>rfl
    | false=>exact absurd ⟨e,he,hb,hx⟩ h
 have toA: ∀(listedA listed:Array Bool),listedA.size=z→listed.size=ops.size→(∀i,i<z→listed.getD i false=listedA.getD i false)→ ∀i,i<z→(i∈Region.ready .any ops listed↔i∈Region.ready .any (au ops z) listedA):=by
  intro listedA listed hA hsz hsame i hi;rw [ed hsz,ed (by rw [hA,yR s.le]),hsame i hi,JQ hi];constructor
  ·rintro⟨h1,o,ho,h2⟩;exact⟨h1,o,ho,fun e he hb=>by rw [←hsame e.on (by have:=s.early i o ho e he hb;omega)];exact h2 e he hb⟩
  ·rintro⟨h1,o,ho,h2⟩;exact⟨h1,o,ho,fun e he hb=>by rw [hsame e.on (by have:=s.early i o ho e he hb;omega)];exact h2 e he hb⟩
 induction fuelA with
 | zero=>
  intro listedA fuel listed a w hA hsz hsame hrest hfA hf hc hw;refine small listedA fuel listed a w hA hsz hsame hrest hf (fun i hi=> ?_) hw.2
  cases h:listedA.getD i false with
  | true=>rfl
  | false=>
   have:false∈listedA.toList:=by
    rw [Array.getD_eq_getD_getElem?,Array.getElem?_eq_getElem (by omega)] at h;simp only [Option.getD_some] at h;rw [←h];exact Array.getElem_mem_toList (by omega)
   have:=List.count_pos_iff.2 this;omega
 | succ fuelA ih=>
  intro listedA fuel listed a w hA hsz hsame hrest hfA hf hc hw;obtain⟨w1,w2⟩:=hw;by_cases hall: ∀i,i<z→listedA.getD i false=true
  ·refine small listedA fuel listed a w hA hsz hsame hrest hf hall (w1 ?_)
   cases hr:Region.ready .any (au ops z) listedA with
   | nil=>rfl
   | cons i l=>
    obtain⟨h1,o,ho,_⟩:=(ed (by rw [hA,yR s.le])).1 (by rw [hr];simp:i∈Region.ready .any (au ops z) listedA);have hi:=(Array.getElem?_eq_some_iff.1 ho).1;rw [yR s.le] at hi;rw [hall i hi] at h1;cases h1
  ·have hex: ∃i,i<z∧listed.getD i false=false:=by
    apply Classical.byContradiction;intro hn;refine hall fun i hi=> ?_
    cases hx:listedA.getD i false with
    | true=>rfl
    | false=>exact absurd ⟨i,hi,by rw [hsame i hi];exact hx⟩ hn
   obtain⟨i0,hi0,hr0⟩:=minimal listed hsz hex;have hfpos:0<fuel:=by
    obtain⟨h1,o,ho,_⟩:=(ed hsz).1 hr0;have hi:=(Array.getElem?_eq_some_iff.1 ho).1;have:=kR (l:=listed) (by omega) h1;omega
   obtain⟨fuel,rfl⟩: ∃f,fuel=f+1:=⟨fuel - 1,by omega⟩;refine⟨fun hr=>absurd (hr▸hr0) (by simp),fun i hi=> ?_⟩;obtain⟨h1,o,ho,h2⟩:=(ed hsz).1 hi;have hil:=(Array.getElem?_eq_some_iff.1 ho).1;have hdep:=vW hc ho h2;have hiz:i<z:=by
    apply Classical.byContradiction;intro hn;obtain⟨k,hk,hkf⟩:=hex;rw [hdep k (s.dep k i (by omega) hil (by omega))] at hkf;cases hkf
   have hA1:listedA.getD i false=false:=by rw [←hsame i hiz];exact h1
   have h3:=w2 i ((toA listedA listed hA hsz hsame i hiz).1 hi);have next: ∀a' w',wpAny P .any (au ops z) (LP P ops z Q) fuelA (listedA.setIfInBounds i true) a' w'→wpAny P .any ops Q fuel (listed.setIfInBounds i true) a' w':=fun a' w' hw'=>by
    have c1:=kR (l:=listedA) (by omega) hA1;have c2:=kR (l:=listed) (by omega) h1;refine ih _ fuel _ a' w' (by simp [hA]) (by simp [hsz]) (fun q hq=> ?_) (fun q hq=> ?_) (by omega) (by omega) ?_ hw'
    ·rw [gH (by omega),gH (by omega),hsame q hq]
    ·rw [gH (by omega),if_neg (by omega)];exact hrest q hq
    ·intro p q hd hq;rw [gH (by omega)] at hq ⊢;by_cases hp:p=i
     ·simp [hp]
     ·rw [if_neg hp];by_cases hqi:q=i
      ·subst hqi;exact hdep p hd
      ·rw [if_neg hqi] at hq;exact hc p q hd hq
   unfold wpOp at h3 ⊢;rw [JQ hiz,ho] at h3;rw [ho];simp only at h3 ⊢;have hwant:Region.wanted o (yielded (au ops z) a.tmps)=Region.wanted o (yielded ops a.tmps):=by
    unfold Region.wanted
    cases hg:o.guard with
    | none=>rfl
    | some kb=>
     obtain⟨k,b⟩:=kb;have hk:=s.guard i o k b ho hiz hg;simp only [yielded,JQ hk]
   rw [hwant] at h3;split at h3
   ·rename_i hwt;rw [if_pos hwt];rcases h3 with h3 | h3
    ·refine .inl ?_;have h4:=Oper.wp_mono next h3;unfold Oper.wp at h4 ⊢;generalize (execOp a.eval o).run P w=r at h4 ⊢
     cases r with
     | ok n w'=>
      cases n <;> simp only [Oper.upon] at h4 ⊢ <;>
       first
        | exact h4
        | exact Calls.mono h4 (fun e w'' he=>by cases e <;> first | exact he | (simpa [LetsOut,LP] using he))
     | halt x w'=>cases x <;> simp only [Oper.upon] at h4 ⊢ <;> first | exact h4 | simpa [LP] using h4
    ·refine .inr ⟨h3.1,?_⟩;simpa [LetsOut,LP] using h3.2
   ·rename_i hwt;rw [if_neg hwt];exact next _ _ h3
end
section
variable {P : Program} {gl : aR} {N : Nat} {Q : dN} {fr : aP} {h : ak} {ops : Array Oper}
theorem aW.region_last {id:Nat} (z:Nat)(L:List (Nat×Nat))(hm:P.follows .mixedOrders=true)(hz:Bw ops z=true)(hd:ny (au ops z) L=true)
  (hs:kQ P gl N (au ops z) (au ops z).toList [] [] (fun frs hs fr h=>iJ P gl N (au ops z) L frs hs∧iL P gl N false ops (ops.toList.drop z) (Q .normal) fr h) fr h):aW P gl N (.region id ops true) Q fr h:=by
 intro J a w r;have sz:=Ff hz;have hps:=yR sz.le;simp only [ny,Bool.and_eq_true,beq_iff_eq] at hd;have dk:=rQ hd.1;obtain⟨F,H,X,f1,f2,f30,f4⟩:=pG (au ops z).toList 0 fr h [] [] (by simp) hs;simp only [Nat.zero_add,Array.length_toList,List.nil_append] at f30 f4;obtain⟨hlax,f3⟩:=f30;have lax:=xz hd.2 f4 hlax;obtain⟨hdr,evd⟩:=r.heap.drew;refine wp_region_any hm ?_;have key:wpAny P .any (au ops z) (LP P ops z (lift gl N h J w Q)) (au ops z).size (Array.replicate (au ops z).size false) a { w with drawn:=w.drawn+1 }:=by
  refine o8 (F:=F) (H:=H) (X:=X) (fr:=fr) (h:=h) (J0:=J) (w0:=w) dk f1 f2 (fun j o hj ho=>f4 j o (Nat.zero_le _) hj ho) lax (Q:=LP P ops z (lift gl N h J w Q)) ?_ (au ops z).size _ a _ (by simp) ?_ (by simp) ?_
  ·intro J' a' w' r' ev';have h1:=CS (ops:=ops) (ops.toList.drop z) (F (au ops z).size) (H (au ops z).size) f3 J' a' w' r';refine FM (fun e a2 w2 hq=> ?_) _ _ _ h1;obtain⟨J2,fr2,h2,q1,q2,q3⟩:=hq;refine⟨J2,fr2,h2,q1,ev'.trans q2,?_⟩
   cases e with
   | normal=>exact q3
   | _=>exact q3.elim
  ·intro h0;have:au ops z= #[]:=Array.eq_empty_of_size_eq_zero h0;rw [this];rfl
  ·refine⟨fun i j _ hj=> ?_,0,J,Nat.zero_le _,fun e o ho hae=> ?_,?_,?_⟩
   ·exfalso
    simp only [Array.getD_eq_getD_getElem?] at hj
    cases hx:(Array.replicate (au ops z).size false)[j]? with
    | none=>rw [hx] at hj;simp at hj
    | some b=>
     rw [hx] at hj;rw [Array.getElem?_replicate] at hx;split at hx <;> simp_all
   ·have he:e<(au ops z).size:=(Array.getElem?_eq_some_iff.1 ho).1;simp [he]
   ·have hfd: ∀n,FD (au ops z) X fr (fun i=>(Array.replicate (au ops z).size false).getD i false) n=fr:=by
     intro n
     induction n with
     | zero=>rfl
     | succ n ih=>
      simp only [FD];rw [if_neg,ih];intro hh;simp only [Array.getD_eq_getD_getElem?] at hh
      cases hx:(Array.replicate (au ops z).size false)[n]? with
      | none=>rw [hx] at hh;simp at hh
      | some b=>
       rw [hx] at hh;rw [Array.getElem?_replicate] at hx;split at hx <;> simp_all
    rw [hfd,f2];exact⟨r.size,r.defers,fun t=>(r.tmps t).evo evd,hdr⟩
   ·rw [f2];exact evd
 refine P5 sz (au ops z).size (Array.replicate (au ops z).size false) ops.size (Array.replicate ops.size false) a _ (by simp [hps]) (by simp) (fun i hi=> ?_) (fun i hi=> ?_) (by simp) (by simp) (fun i j _ hj=> ?_) key
 ·rw [Array.getD_eq_getD_getElem?,Array.getD_eq_getD_getElem?,Array.getElem?_replicate,Array.getElem?_replicate];split <;> split <;> rfl
 ·rw [Array.getD_eq_getD_getElem?,Array.getElem?_replicate];split <;> rfl
 ·rw [Array.getD_eq_getD_getElem?,Array.getElem?_replicate] at hj;split at hj <;> simp at hj
end
def nG (P:Program)(gl:aR)(N:Nat)(lx:Nat→Option (Nat×List (Nat×Nat))):Code→dN→aP→ak→Prop
 | .skip,Q,fr,h=>Q .normal fr h
 | .label _,Q,fr,h=>Q .normal fr h
 | .seq a b,Q,fr,h=>nG P gl N lx a (iY (nG P gl N lx b Q) Q) fr h
 | .cond c x y,Q,fr,h=>(ev gl fr c).gd=true∧MQ (ev gl fr c).core (uh (nG P gl N lx x Q) (nG P gl N lx y Q) fr h)
 | .block id c,Q,fr,h=>nG P gl N lx c (jZ id Q) fr h
 | .exit id,Q,fr,h=>Q (.exit id) fr h
 | .ret,Q,fr,h=>Q .ret fr h
 | .region _ ops false,Q,fr,h=>iL P gl N false ops ops.toList (Q .normal) fr h
 | .region id ops true,Q,fr,h=>match lx id with
  | none=>lH ops=true∧iL P gl N true ops ops.toList (Q .normal) fr h
  | some (z,L)=>(Bw ops z=true∧ny (au ops z) L=true)∧kQ P gl N (au ops z) (au ops z).toList [] [] (fun frs hs fr h=>iJ P gl N (au ops z) L frs hs∧iL P gl N false ops (ops.toList.drop z) (Q .normal) fr h) fr h
 | .loop c,Q,fr,h=>aW P gl N (.loop c) Q fr h
 | _,_,_,_=>False
section
variable {P : Program} {gl : aR} {N : Nat} {fr : aP} {h : ak} {lx : Nat → Option (Nat × List (Nat × Nat))}
theorem aW.of_awpM (lx:Nat→Option (Nat×List (Nat×Nat)))(hm:P.follows .mixedOrders=true): ∀(c:Code) (Q:dN) (fr:aP) (h:ak),nG P gl N lx c Q fr h→aW P gl N c Q fr h
 | .skip,Q,fr,h,hs=>aW.skip hs
 | .label _,Q,fr,h,hs=>aW.label hs
 | .seq a b,Q,fr,h,hs=>by
  refine aW.seq ((aW.of_awpM lx hm a _ fr h hs).mono ?_);intro e fr' h' q
  cases e with
  | normal=>exact aW.of_awpM lx hm b Q fr' h' q
  | _=>exact q
 | .cond c x y,Q,fr,h,hs=>by
  obtain⟨hg,hs⟩:=hs;unfold MQ at hs;split at hs
  ·rename_i t ht;intro J a w r;have re:=(qN (a:=a) r.heap (fun t' _=>r.tmps t'):aQ J (Own h J) w (ev gl fr c) (a.eval c)).core hg;rw [ht] at re;have hc:a.eval c= .bool t:=by
    generalize a.eval c=v at re;cases re
    rfl
   refine wp_cond hc ?_
   cases t with
   | true=>exact aW.of_awpM lx hm x Q fr h (hs.1 rfl) J a w r
   | false=>exact aW.of_awpM lx hm y Q fr h (hs.2 rfl) J a w r
  ·exact hs.elim
 | .block id c,Q,fr,h,hs=>aW.block (aW.of_awpM lx hm c _ fr h hs)
 | .exit id,Q,fr,h,hs=>aW.exit hs
 | .ret,Q,fr,h,hs=>aW.ret hs
 | .region _ ops false,Q,fr,h,hs=>aW.region hs
 | .region id ops true,Q,fr,h,hs=>by
  simp only [nG] at hs
  cases hl:lx id with
  | none=>rw [hl] at hs;exact aW.region_draw hm hs.1 hs.2
  | some zL=>rw [hl] at hs;exact aW.region_last zL.1 zL.2 hm hs.1.1 hs.1.2 hs.2
 | .loop c,Q,fr,h,hs=>hs
 | .rangeFunc ..,_,_,_,hs=>hs.elim
 | .scope _,_,_,_,hs=>hs.elim
 | .goto _,_,_,_,hs=>hs.elim
 | .refuse _,_,_,_,hs=>hs.elim
theorem af.bodyM {f:FuncId} (lx:Nat→Option (Nat×List (Nat×Nat)))(fn:Func)(c:Code) {args:List AV} {R:AV→ak→Prop} (hm:P.follows .mixedOrders=true)(hf:P.funcs[f]? =some fn)(hb:fn.body=some c)(hname:(fn.name== "runtime.NumGoroutine")=false)
  (hn:args.length≤fn.ntmps) (hc:nG P gl fn.ntmps lx c (p8 P fn R) (x9 args) h):af P gl f args h R:=
 af.of_body' hf hb hname hn (aW.of_awpM lx hm c _ _ _ hc)
theorem aW.upM {c:Code} {Q:dN} (lx:Nat→Option (Nat×List (Nat×Nat)))(hm:P.follows .mixedOrders=true)(n:Nat)(I:Nat→aP→ak→Prop)(k:Nat)(hk:k≤n)(h0:I k fr h)
  (round: ∀k fr h,k≤n→I k fr h→nG P gl N lx c (iY (fun fr' h'=> ∃k',k<k'∧k'≤n∧I k' fr' h') Q) fr h):aW P gl N (.loop c) Q fr h:=
 aW.loop_up n I k hk h0 fun k fr h h1 h2=>aW.of_awpM lx hm c _ _ _ (round k fr h h1 h2)
end
section
variable {P : Program} {gl : aR} {N : Nat} {Q : dN} {fr : aP} {h : ak} {lx : Nat → Option (Nat × List (Nat × Nat))} {ops : Array Oper}
@[simp] theorem XV:nG P gl N lx .skip Q fr h↔Q .normal fr h:=Iff.rfl
@[simp] theorem WE (l:Nat):nG P gl N lx (.label l) Q fr h↔Q .normal fr h:=Iff.rfl
@[simp] theorem YG (a b:Code):nG P gl N lx (.seq a b) Q fr h↔nG P gl N lx a (iY (nG P gl N lx b Q) Q) fr h:=Iff.rfl
@[simp] theorem XI (c:Operand) (x y:Code):nG P gl N lx (.cond c x y) Q fr h↔(ev gl fr c).gd=true∧MQ (ev gl fr c).core (uh (nG P gl N lx x Q) (nG P gl N lx y Q) fr h):=Iff.rfl
@[simp] theorem WA (id:Nat) (c:Code):nG P gl N lx (.block id c) Q fr h↔nG P gl N lx c (jZ id Q) fr h:=Iff.rfl
@[simp] theorem XN (id:Nat):nG P gl N lx (.exit id) Q fr h↔Q (.exit id) fr h:=Iff.rfl
@[simp] theorem YD:nG P gl N lx .ret Q fr h↔Q .ret fr h:=Iff.rfl
@[simp] theorem VG (id:Nat):nG P gl N lx (.region id ops false) Q fr h↔iL P gl N false ops ops.toList (Q .normal) fr h:=Iff.rfl
@[simp] theorem XR (c:Code):nG P gl N lx (.loop c) Q fr h↔aW P gl N (.loop c) Q fr h:=Iff.rfl
@[simp] theorem XL (id:Nat) (ops:Array Oper):nG P gl N lx (.region id ops true) Q fr h↔(match lx id with
  | none=>lH ops=true∧iL P gl N true ops ops.toList (Q .normal) fr h
  | some (z,L)=>(Bw ops z=true∧ny (au ops z) L=true)∧kQ P gl N (au ops z) (au ops z).toList [] [] (fun frs hs fr h=>iJ P gl N (au ops z) L frs hs∧iL P gl N false ops (ops.toList.drop z) (Q .normal) fr h) fr h):=Iff.rfl
end
end Go.Abs
end
section
namespace Go.Abs
open Go
def dh (ops:Array Oper)(i:Nat):Bool:=match ops[i]? with
 | some o=>bW o.op
 | none=>false
def dw (ops:Array Oper)(p:List Nat)(k:Nat):Option Nat:=((List.range k).filter fun m=>dh ops (p.getD m 0)).getLast?
def dC (ops:Array Oper)(p:List Nat)(k i:Nat)(o:Oper):Oper:=
 { o with
  after:=(o.after.filter (Region.binds .any)).map (fun e=> { e with on:=p.idxOf e.on })++(if bW o.op then (match dw ops p k with | some m=> #[({ on:=m,ground:= .data }:Edge)] | none=> #[]) else #[]),
  guard:=o.guard.map fun g=>(p.idxOf g.1,g.2) }
def bi (ops:Array Oper)(p:List Nat):Array Oper:=((List.range p.length).map fun k=>dC ops p k (p.getD k 0) (ops.getD (p.getD k 0) default)).toArray
def Nq (dep:Nat→Nat→Bool):Nat→List Nat→List (List Nat)
 | 0,_=>[[]]
 | n+1,rest=>rest.flatMap fun i=>if rest.all fun j=> !dep j i then (Nq dep n (rest.erase i)).map (i:: ·) else []
def yQ (ops:Array Oper)(ps:List (List Nat)):Bool:=
 let ms:=masks ops.toList []
 Bw ops ops.size && (ps.all fun p=>decide (p.length=ops.size) && ((List.range ops.size).all fun i=>p.contains i) && (List.range ops.size).all fun k=>decide (p.getD k 0<ops.size) && decide (p.idxOf (p.getD k 0)=k)) &&
 (let A:=(List.range ops.size).filter (dh ops);(Nq (qg ms) A.length A).all fun q=>ps.any fun p=>decide (p.filter (dh ops)=q))
inductive tC (ops:Array Oper):Array Bool→List Nat→Prop
 | nil (l:Array Bool) (h:Region.ready .any ops l=[]):tC ops l []
 | cons (l:Array Bool) (i:Nat) (s:List Nat) (h:i∈Region.ready .any ops l) (hs:tC ops (l.setIfInBounds i true) s):tC ops l (i::s)
section
variable {P : Program} {ops : Array Oper}
theorem TU: ∀(fuel t:Nat) (l:Array Bool),l.size=ops.size→l.toList.count false≤fuel→tC ops l (Region.linearise.go .any ops fuel t l []):=by
 intro fuel;have none_left: ∀l:Array Bool,l.size=ops.size→l.toList.count false=0→Region.ready .any ops l=[]:=by
  intro l hs hc
  cases hr:Region.ready .any ops l with
  | nil=>rfl
  | cons i r=>
   obtain⟨h1,o,ho,_⟩:=(ed hs).1 (by rw [hr];simp:i∈Region.ready .any ops l);have hi:=(Array.getElem?_eq_some_iff.1 ho).1;have:=kR (l:=l) (by omega) h1;omega
 induction fuel with
 | zero=>
  intro t l hs hc;simp only [Region.linearise.go,List.reverse_nil];exact .nil l (none_left l hs (by omega))
 | succ fuel ih=>
  intro t l hs hc;simp only [Region.linearise.go];change tC ops l (match (Region.ready .any ops l)[t % (Region.ready .any ops l).length]? with
   | some i=>Region.linearise.go .any ops fuel (t / (Region.ready .any ops l).length) (l.setIfInBounds i true) [i]
   | none=>[].reverse)
  cases hi:(Region.ready .any ops l)[t % (Region.ready .any ops l).length]? with
  | none=>
   have hnil:Region.ready .any ops l=[]:=by
    cases hr:Region.ready .any ops l with
    | nil=>rfl
    | cons x xs=>
     rw [hr] at hi;have hlt:t % (x::xs).length<(x::xs).length:=Nat.mod_lt _ (by simp);simp at hi;simp at hlt;omega
   exact .nil l hnil
  | some i=>
   simp only [];rw [linearise_go_acc,List.reverse_singleton,List.singleton_append];have hm:=zF hi;obtain⟨h1,o,ho,_⟩:=(ed hs).1 hm;have hil:=(Array.getElem?_eq_some_iff.1 ho).1;have:=kR (l:=l) (by omega) h1;exact .cons l i _ hm (ih _ _ (by simp [hs]) (by omega))
theorem PZ {Q:Exit→Act→World→Prop} {l:Array Bool} {s:List Nat} (h:tC ops l s): ∀ {fuel:Nat} {a:Act} {w:World},s.length≤fuel→wpAny P .any ops Q fuel l a w→wpOps P ops Q s a w:=by
 induction h with
 | nil l h=>
  intro fuel a w _ hw
  cases fuel with
  | zero=>simpa [wpOps] using hw.2
  | succ fuel=>simpa [wpOps] using hw.1 h
 | cons l i s hi hs ih=>
  intro fuel a w hf hw
  cases fuel with
  | zero=>simp at hf
  | succ fuel=>
   rw [wpOps_cons];exact wpOp_mono (fun a w h=>ih (by simpa using hf) h) (hw.2 i hi)
theorem tC.facts {l:Array Bool} {s:List Nat} (h:tC ops l s)(se:CJ ops ops.size):l.size=ops.size→Closed ops l→
  s.Nodup∧(∀i,i∈s↔i<ops.size∧l.getD i false=false)∧s.Pairwise fun i j=> ¬qx ops j i:=by
 induction h with
 | nil l h=>
  intro hs _;refine⟨List.Pairwise.nil,fun i=>⟨fun h=>by simp at h,fun ⟨hi,hl⟩=> ?_⟩,List.Pairwise.nil⟩
  exfalso
  induction i using Nat.strongRecOn with
  | _ i ih=>
   have ho:ops[i]? =some (ops[i]'hi):=Array.getElem?_eq_getElem hi;by_cases hx: ∃e∈(ops[i]'hi).after,Region.binds .any e=true∧l.getD e.on false=false
   ·obtain⟨e,he,hb,hf⟩:=hx;have:=se.early i _ ho e he hb;exact ih e.on this ⟨by omega,hf⟩ (by omega) hf
   ·have:i∈Region.ready .any ops l:=(ed hs).2 ⟨hl,_,ho,fun e he hb=>by
     cases hx2:l.getD e.on false with
     | true=>rfl
     | false=>exact absurd ⟨e,he,hb,hx2⟩ hx⟩
    rw [h] at this;cases this
 | cons l i s hi hsd ih=>
  intro hs hc;obtain⟨h1,o,ho,h2⟩:=(ed hs).1 hi;have hil:=(Array.getElem?_eq_some_iff.1 ho).1;have hdep:=vW hc ho h2;obtain⟨n1,n2,n3⟩:=ih (by simp [hs]) (fun p q hd hq=>by
   rw [gH (by omega)] at hq ⊢;by_cases hp:p=i
   ·simp [hp]
   ·rw [if_neg hp];by_cases hqi:q=i
    ·subst hqi;exact hdep p hd
    ·rw [if_neg hqi] at hq;exact hc p q hd hq)
  refine⟨List.nodup_cons.2 ⟨fun hm=> ?_,n1⟩,fun k=> ?_,List.pairwise_cons.2 ⟨fun j hj hd=> ?_,n3⟩⟩
  ·have:=((n2 i).1 hm).2;rw [gH (by omega),if_pos rfl] at this;cases this
  ·rw [List.mem_cons,n2 k,gH (by omega)];constructor
   ·rintro (rfl | ⟨a,b⟩)
    ·exact⟨hil,h1⟩
    ·refine⟨a,?_⟩;by_cases e:k=i
     ·rw [if_pos e] at b;cases b
     ·rwa [if_neg e] at b
   ·rintro⟨a,b⟩;by_cases e:k=i
    ·exact .inl e
    ·exact .inr ⟨a,by rw [if_neg e];exact b⟩
  ·have:=((n2 j).1 hj).2;rw [gH (by omega)] at this;have hji:j≠i:=by rintro rfl;rw [if_pos rfl] at this;cases this
   rw [if_neg hji] at this;rw [hdep j hd] at this;cases this
theorem LB {dep:Nat→Nat→Bool}: ∀(q rest:List Nat),q.Nodup→rest.Nodup→(∀i,i∈q↔i∈rest)→q.Pairwise (fun i j=>dep j i=false)→(∀i∈q,dep i i=false)→q∈Nq dep q.length rest
 | [],_,_,_,_,_,_=>by simp [Nq]
 | i::q,rest,hq,hr,hm,hp,hir=>by
  rw [List.length_cons,Nq,List.mem_flatMap];obtain⟨h1,h2⟩:=List.nodup_cons.1 hq;obtain⟨p1,p2⟩:=List.pairwise_cons.1 hp;refine⟨i,(hm i).1 (by simp),?_⟩;rw [if_pos]
  ·refine List.mem_map.2 ⟨q,LB q (rest.erase i) h2 (hr.erase i) (fun j=> ?_) p2 (fun j hj=>hir j (by simp [hj])),rfl⟩;rw [hr.mem_erase_iff,←hm j,List.mem_cons];constructor
   ·intro hj;exact⟨fun e=>h1 (e▸hj),.inr hj⟩
   ·rintro⟨a,b | b⟩
    ·exact absurd b a
    ·exact b
  ·rw [List.all_eq_true];intro j hj;rcases List.mem_cons.1 ((hm j).2 hj) with rfl | hj'
   ·simpa using hir j (by simp)
   ·simpa using p1 j hj'
structure rO (ops:Array Oper)(p:List Nat):Prop where
 len:p.length=ops.size
 mem: ∀i,i<ops.size→i∈p
 lt: ∀k,k<ops.size→p.getD k 0<ops.size
 idx: ∀k,k<ops.size→p.idxOf (p.getD k 0)=k
theorem rO.inv {p:List Nat} (s:rO ops p) {i:Nat} (hi:i<ops.size):p.idxOf i<ops.size∧p.getD (p.idxOf i) 0=i:=by
 have hidx:p.idxOf i<p.length:=List.idxOf_lt_length_of_mem (s.mem i hi);refine⟨by rw [←s.len];exact hidx,?_⟩;rw [List.getD_eq_getElem?_getD,zB hidx,Option.getD_some];exact List.getElem_idxOf hidx
theorem rO.nodup {p:List Nat} (s:rO ops p):p.Nodup:=by
 rw [List.nodup_iff_pairwise_ne,List.pairwise_iff_getElem];intro i j hi hj hij he;have h1:=s.idx i (by rw [←s.len];exact hi);have h2:=s.idx j (by rw [←s.len];exact hj);rw [List.getD_eq_getElem?_getD,zB hi,Option.getD_some] at h1;rw [List.getD_eq_getElem?_getD,zB hj,Option.getD_some,←he] at h2;omega
theorem EA {p:List Nat} (s:rO ops p) {i:Nat} {o:Oper} (ho:ops[i]? =some o):(bi ops p)[p.idxOf i]? =some (dC ops p (p.idxOf i) i o):=by
 have hi:=(Array.getElem?_eq_some_iff.1 ho).1;obtain⟨hidx,hget⟩:=s.inv hi;simp only [bi,List.getElem?_toArray];rw [List.getElem?_map,List.getElem?_range (by rw [s.len];exact hidx),Option.map_some,hget,Array.getD_eq_getD_getElem?,ho];rfl
theorem lT {p:List Nat} (s:rO ops p):(bi ops p).size=ops.size:=by
 simp [bi,s.len]
theorem E9 {α:Type} {x:α}: ∀ {A C B D:List α},A++x::B=C++x::D→x∉A→x∉C→A=C
 | [],[],_,_,_,_,_=>rfl
 | [],c::C,B,D,h,_,hc=>by
  injection h with h1 h2;exact absurd (by simp [h1]) hc
 | a::A,[],B,D,h,ha,_=>by
  injection h with h1 h2;exact absurd (by simp [h1]) ha
 | a::A,c::C,B,D,h,ha,hc=>by
  injection h with h1 h2;rw [h1,E9 h2 (fun e=>ha (by simp [e])) (fun e=>hc (by simp [e]))]
theorem Ot {p:List Nat} (sp:rO ops p)(se:CJ ops ops.size) {l:Array Bool} {s:List Nat} (h:tC ops l s): ∀(l':Array Bool) (dn:List Nat),l.size=ops.size→l'.size=ops.size→Closed ops l→(∀k,k<ops.size→l'.getD k false=l.getD (p.getD k 0) false)→
  p.filter (dh ops)=dn++s.filter (dh ops)→(∀i∈dn,l.getD i false=true)→tC (bi ops p) l' (s.map p.idxOf):=by
 induction h with
 | nil l h=>
  intro l' dn hs hs' hc hl _ _;refine .nil l' ?_
  cases hr:Region.ready .any (bi ops p) l' with
  | nil=>rfl
  | cons k r=>
   exfalso
   obtain⟨h1,o,ho,_⟩:=(ed (by rw [lT sp,hs'])).1 (by rw [hr];simp:k∈Region.ready .any (bi ops p) l');have hk:=(Array.getElem?_eq_some_iff.1 ho).1;rw [lT sp] at hk;rw [hl k hk] at h1;have:=((tC.nil l h).facts se hs hc).2.1 (p.getD k 0);have:=this.2 ⟨sp.lt k hk,h1⟩;simp at this
 | cons l i s hi hsd ih=>
  intro l' dn hs hs' hc hl hact hdn;obtain⟨h1,o,ho,h2⟩:=(ed hs).1 hi;have hil:=(Array.getElem?_eq_some_iff.1 ho).1;obtain⟨hii,hig⟩:=sp.inv hil;have hdep:=vW hc ho h2;have hkey: ∀k,k<ops.size→(k=p.idxOf i↔p.getD k 0=i):=fun k hk=>⟨fun e=>by rw [e];exact hig,fun e=>by rw [←e,sp.idx k hk]⟩;rw [List.map_cons];refine .cons l' _ _ ((ed (by rw [lT sp,hs'])).2 ⟨by rw [hl _ hii,hig];exact h1,_,EA sp ho,fun e he hb=> ?_⟩) ?_
  ·simp only [dC] at he;rcases Array.mem_append.1 he with he | he
   ·obtain⟨e0,he0,rfl⟩:=Array.mem_map.1 he;obtain⟨he0,hb0⟩:=Array.mem_filter.1 he0;have h3:=h2 e0 he0 hb0;have h4:e0.on<ops.size:=by
     rw [←hs];apply Classical.byContradiction;intro hn;rw [Array.getD_eq_getD_getElem?,Array.getElem?_eq_none (by omega)] at h3;cases h3
    obtain⟨q1,q2⟩:=sp.inv h4;show l'.getD (p.idxOf e0.on) false=true;rw [hl _ q1,q2];exact h3
   ·split at he
    ·rename_i hab;split at he
     ·rename_i m hm;simp at he;subst he;show l'.getD m false=true;have hmem:=List.mem_of_getLast? hm;obtain⟨hmr,hma⟩:=List.mem_filter.1 hmem;have hmi:=List.mem_range.1 hmr;rw [hl m (by omega)];refine hdn _ ?_;have hia:dh ops i=true:=by simp [dh,ho,hab]
      have hidx:p.idxOf i<p.length:=by rw [sp.len];exact hii
      have hpi:p[p.idxOf i]? =some i:=by rw [zB hidx];congr 1;exact List.getElem_idxOf hidx
      have hpd:p=p.take (p.idxOf i)++i::p.drop (p.idxOf i+1):=by
       conv=>lhs;rw [←List.take_append_drop (p.idxOf i) p]
       congr 1
       rw [List.drop_eq_getElem_cons hidx];congr 1
       exact List.getElem_idxOf hidx
      have hnd:=sp.nodup;have hf:(p.take (p.idxOf i)).filter (dh ops)++i::(p.drop (p.idxOf i+1)).filter (dh ops)=dn++i::s.filter (dh ops):=by
       rw [List.filter_cons,if_pos hia] at hact;rw [←hact]
       conv=>rhs;rw [hpd]
       rw [List.filter_append,List.filter_cons,if_pos hia]
      have hn1:i∉(p.take (p.idxOf i)).filter (dh ops):=by
       intro hm';have hm':=(List.mem_filter.1 hm').1;rw [hpd] at hnd;have:=(List.nodup_append.1 hnd).2.2 i hm' i (by simp);exact this rfl
      have hn2:i∉dn:=fun hm'=>by rw [hdn i hm'] at h1;cases h1
      rw [←E9 hf hn1 hn2];refine List.mem_filter.2 ⟨?_,hma⟩;have hml:m<p.length:=by rw [sp.len];omega
      rw [List.getD_eq_getElem?_getD,zB hml,Option.getD_some];exact List.mem_take_iff_getElem.2 ⟨m,by omega,rfl⟩
     ·simp at he
    ·simp at he
  ·have hl2: ∀k,k<ops.size→(l'.setIfInBounds (p.idxOf i) true).getD k false=(l.setIfInBounds i true).getD (p.getD k 0) false:=by
    intro k hk;rw [gH (by omega),gH (by omega),hl k hk];have:=hkey k hk;by_cases e:k=p.idxOf i
    ·rw [if_pos e,if_pos (this.1 e)]
    ·rw [if_neg e,if_neg (fun q=>e (this.2 q))]
   have hc2:Closed ops (l.setIfInBounds i true):=fun p q hd hq=>by
    rw [gH (by omega)] at hq ⊢;by_cases hp:p=i
    ·simp [hp]
    ·rw [if_neg hp];by_cases hqi:q=i
     ·subst hqi;exact hdep p hd
     ·rw [if_neg hqi] at hq;exact hc p q hd hq
   by_cases hia:dh ops i=true
   ·rw [List.filter_cons,if_pos hia] at hact;refine ih _ (dn++[i]) (by simp [hs]) (by simp [hs']) hc2 hl2 (by rw [hact];simp) fun j hj=> ?_;rw [gH (by omega)];split
    ·rfl
    ·rename_i hji;rcases List.mem_append.1 hj with hj | hj
     ·exact hdn j hj
     ·exact absurd (by simpa using hj) hji
   ·rw [List.filter_cons,if_neg hia] at hact;refine ih _ dn (by simp [hs]) (by simp [hs']) hc2 hl2 hact fun j hj=> ?_;rw [gH (by omega)];split
    ·rfl
    ·exact hdn j hj
theorem FN {p:List Nat} (sp:rO ops p) {Q:Exit→Act→World→Prop}: ∀(s:List Nat) (a:Act) (w:World),(∀i∈s,i<ops.size)→wpOps P (bi ops p) Q (s.map p.idxOf) a w→wpOps P ops Q s a w
 | [],a,w,_,h=>by simpa [wpOps] using h
 | i::s,a,w,hlt,h=>by
  rw [List.map_cons,wpOps_cons] at h;rw [wpOps_cons];have hi:=hlt i (by simp);have ho:ops[i]? =some (ops[i]'hi):=Array.getElem?_eq_getElem hi;have ho':=EA sp ho;have next: ∀a w,wpOps P (bi ops p) Q (s.map p.idxOf) a w→wpOps P ops Q s a w:=fun a w h=>FN sp s a w (fun j hj=>hlt j (by simp [hj])) h;generalize ops[i]'hi=o at ho ho';have hw:Region.wanted (dC ops p (p.idxOf i) i o) (yielded (bi ops p) a.tmps)=Region.wanted o (yielded ops a.tmps):=by
   cases hg:o.guard with
   | none=>simp [Region.wanted,dC,hg]
   | some g=>
    obtain⟨j,b⟩:=g;have hy:yielded (bi ops p) a.tmps (p.idxOf j)=yielded ops a.tmps j:=by
     unfold yielded;rcases zN j ops.size with hj | hj
     ·have hoj:ops[j]? =some (ops[j]'hj):=Array.getElem?_eq_getElem hj;rw [EA sp hoj,hoj];rfl
     ·have hn:j∉p:=by
       intro hm;obtain⟨k,hk,he⟩:=List.getElem_of_mem hm;have:=sp.lt k (by rw [←sp.len];exact hk);rw [List.getD_eq_getElem?_getD,zB hk,Option.getD_some] at this;omega
      rw [List.idxOf_eq_length hn,sp.len,Array.getElem?_eq_none (by rw [lT sp];omega),Array.getElem?_eq_none hj]
    simp only [Region.wanted,dC,hg,Option.map_some,hy]
  unfold wpOp at h ⊢;rw [ho'] at h;rw [ho];simp only at h ⊢;rw [hw] at h;split at h
  ·rename_i hwt;rw [if_pos hwt];rcases h with h | h
   ·exact .inl (Oper.wp_mono next (show o.wp P a w (wpOps P (bi ops p) Q (s.map p.idxOf)) Q from h))
   ·exact .inr (show o.asks P a w∧LetsOut Q from h)
  ·rename_i hwt;rw [if_neg hwt];exact next _ _ h
theorem JO {ps:List (List Nat)} (h:yQ ops ps=true):CJ ops ops.size∧(∀p∈ps,rO ops p)∧ ∀q∈Nq (qg (masks ops.toList [])) ((List.range ops.size).filter (dh ops)).length ((List.range ops.size).filter (dh ops)),∃p∈ps,p.filter (dh ops)=q:=by
 unfold yQ at h;simp only [Bool.and_eq_true,List.all_eq_true,decide_eq_true_eq,List.mem_range,List.any_eq_true] at h;obtain⟨⟨h1,h2⟩,h3⟩:=h;refine⟨Ff h1,fun p hp=> ?_,fun q hq=>h3 q hq⟩;obtain⟨⟨a,b⟩,c⟩:=h2 p hp;exact⟨a,fun i hi=>by simpa using b i hi,fun k hk=>(c k hk).1,fun k hk=>(c k hk).2⟩
end
section
variable {P : Program} {gl : aR} {N : Nat} {Q : dN} {fr : aP} {h : ak} {ops : Array Oper}
theorem U8 {J:List eF} {a:Act} {w:World} (L:List (Nat×Nat))(hd:ny ops L=true)(hs:kQ P gl N ops ops.toList [] [] (fun frs hs fr h=>iJ P gl N ops L frs hs∧Q .normal fr h) fr h)(r:qB gl N J fr h a w):
  wpAny P .any ops (lift gl N h J w Q) ops.size (Array.replicate ops.size false) a { w with drawn:=w.drawn+1 }:=by
 simp only [ny,Bool.and_eq_true,beq_iff_eq] at hd;have dk:=rQ hd.1;obtain⟨F,H,X,f1,f2,f30,f4⟩:=pG ops.toList 0 fr h [] [] (by simp) hs;simp only [Nat.zero_add,Array.length_toList,List.nil_append] at f30 f4;obtain⟨hlax,f3⟩:=f30;have lax:=xz hd.2 f4 hlax;obtain⟨hdr,evd⟩:=r.heap.drew;refine o8 (F:=F) (H:=H) (X:=X) (fr:=fr) (h:=h) (J0:=J) (w0:=w) dk f1 f2 (fun j o hj ho=>f4 j o (Nat.zero_le _) hj ho) lax (Q:=lift gl N h J w Q) ?_ ops.size _ a _ (by simp) ?_ (by simp) ?_
 ·intro J' a' w' r' ev';exact⟨J',F ops.size,H ops.size,r',ev',f3⟩
 ·intro h0;have:ops= #[]:=Array.eq_empty_of_size_eq_zero h0;subst this;rfl
 ·refine⟨fun i j _ hj=> ?_,0,J,Nat.zero_le _,fun e o ho hae=> ?_,?_,?_⟩
  ·exfalso
   simp only [Array.getD_eq_getD_getElem?] at hj
   cases hx:(Array.replicate ops.size false)[j]? with
   | none=>rw [hx] at hj;simp at hj
   | some b=>
    rw [hx] at hj;rw [Array.getElem?_replicate] at hx;split at hx <;> simp_all
  ·have he:e<ops.size:=(Array.getElem?_eq_some_iff.1 ho).1;simp [he]
  ·have hfd: ∀n,FD ops X fr (fun i=>(Array.replicate ops.size false).getD i false) n=fr:=by
    intro n
    induction n with
    | zero=>rfl
    | succ n ih=>
     simp only [FD];rw [if_neg,ih];intro hh;simp only [Array.getD_eq_getD_getElem?] at hh
     cases hx:(Array.replicate ops.size false)[n]? with
     | none=>rw [hx] at hh;simp at hh
     | some b=>
      rw [hx] at hh;rw [Array.getElem?_replicate] at hx;split at hx <;> simp_all
   rw [hfd,f2];exact⟨r.size,r.defers,fun t=>(r.tmps t).evo evd,hdr⟩
  ·rw [f2];exact evd
theorem aW.region_perm {id:Nat} (ps:List (List Nat×List (Nat×Nat)))(hm:P.follows .mixedOrders=true)(hp:yQ ops (ps.map (·.1))=true)(hL: ∀q∈ps,ny (bi ops q.1) q.2=true)
  (hs: ∀q∈ps,kQ P gl N (bi ops q.1) (bi ops q.1).toList [] [] (fun frs hs fr h=>iJ P gl N (bi ops q.1) q.2 frs hs∧Q .normal fr h) fr h):aW P gl N (.region id ops true) Q fr h:=by
 intro J a w r;refine wp_region_draw fun t=> ?_;simp only [Region.schedule,hm,Bool.true_or,if_true];obtain⟨se,sps,hcov⟩:=JO hp;have hsz:(Array.replicate ops.size false).size=ops.size:=by simp
 have hc0:Closed ops (Array.replicate ops.size false):=fun i j _ hj=>by
  rw [Array.getD_eq_getD_getElem?,Array.getElem?_replicate] at hj;split at hj <;> simp at hj
 have hsched:tC ops (Array.replicate ops.size false) (Region.linearise .any ops t):=TU ops.size t _ hsz (by simp);generalize Region.linearise .any ops t=s at hsched;obtain⟨n1,n2,n3⟩:=hsched.facts se hsz hc0;have hin: ∀i,i∈s↔i<ops.size:=fun i=>by
  rw [n2 i];constructor
  ·exact fun h=>h.1
  ·intro hi;refine⟨hi,?_⟩;rw [Array.getD_eq_getD_getElem?,Array.getElem?_replicate,if_pos hi];rfl
 have hq:s.filter (dh ops)∈Nq (qg (masks ops.toList [])) ((List.range ops.size).filter (dh ops)).length ((List.range ops.size).filter (dh ops)):=by
  have hnd1:(s.filter (dh ops)).Nodup:=n1.sublist List.filter_sublist;have hnd2:((List.range ops.size).filter (dh ops)).Nodup:=List.nodup_range.sublist List.filter_sublist;have hmm: ∀i,i∈s.filter (dh ops)↔i∈(List.range ops.size).filter (dh ops):=fun i=>by
   rw [List.mem_filter,List.mem_filter,hin,List.mem_range]
  have hlen:(s.filter (dh ops)).length=((List.range ops.size).filter (dh ops)).length:=((List.perm_ext_iff_of_nodup hnd1 hnd2).2 hmm).length_eq;rw [←hlen];refine LB _ _ hnd1 hnd2 hmm ?_ ?_
  ·refine (n3.sublist List.filter_sublist).imp fun {i j} hij=> ?_
   cases hd:qg (masks ops.toList []) j i with
   | false=>rfl
   | true=>exact absurd (lG hd) hij
  ·intro i _
   cases hd:qg (masks ops.toList []) i i with
   | false=>rfl
   | true=>have:=(lG hd).lt se;omega
 obtain⟨p,hpm,hpf⟩:=hcov _ hq;obtain⟨q,hqm,rfl⟩:=List.mem_map.1 hpm;have sp:=sps _ hpm;have key:=U8 (J:=J) (a:=a) (w:=w) q.2 (hL q hqm) (hs q hqm) r;have hs':=Ot sp se hsched (Array.replicate (bi ops q.1).size false) [] hsz (by simp [lT sp]) hc0 (fun k hk=>by
  rw [Array.getD_eq_getD_getElem?,Array.getD_eq_getD_getElem?,Array.getElem?_replicate,Array.getElem?_replicate,if_pos (by rw [lT sp];exact hk),if_pos (sp.lt k hk)]) (by rw [hpf];simp) (by simp)
 have hfl:(s.map q.1.idxOf).length≤(bi ops q.1).size:=by
  rw [List.length_map,lT sp];have:s.length≤(List.range ops.size).length:=((List.perm_ext_iff_of_nodup n1 List.nodup_range).2 fun i=>by rw [hin,List.mem_range]).length_eq▸Nat.le_refl _;simpa using this
 exact FN sp s a _ (fun i hi=>(hin i).1 hi) (PZ hs' hfl key)
end
inductive ug where
 | last (z:Nat) (L:List (Nat×Nat))
 | perm (ps:List (List Nat×List (Nat×Nat)))
def lc (P:Program)(gl:aR)(N:Nat)(ops:Array Oper)(K:aP→ak→Prop)(fr:aP)(h:ak):List (List Nat×List (Nat×Nat))→Prop
 | []=>True
 | q::ps=>(ny (bi ops q.1) q.2=true∧kQ P gl N (bi ops q.1) (bi ops q.1).toList [] [] (fun frs hs fr h=>iJ P gl N (bi ops q.1) q.2 frs hs∧K fr h) fr h)∧lc P gl N ops K fr h ps
theorem uY {P:Program} {gl:aR} {N:Nat} {ops:Array Oper} {K:aP→ak→Prop} {fr:aP} {h:ak}: ∀ {ps:List (List Nat×List (Nat×Nat))},lc P gl N ops K fr h ps→ ∀q∈ps,
  ny (bi ops q.1) q.2=true∧kQ P gl N (bi ops q.1) (bi ops q.1).toList [] [] (fun frs hs fr h=>iJ P gl N (bi ops q.1) q.2 frs hs∧K fr h) fr h
 | [],_,q,hq=>by cases hq
 | p::ps,hp,q,hq=>by
  rcases List.mem_cons.1 hq with rfl | hq
  ·exact hp.1
  ·exact uY hp.2 q hq
def nH (P:Program)(gl:aR)(N:Nat)(lx:Nat→Option ug):Code→dN→aP→ak→Prop
 | .skip,Q,fr,h=>Q .normal fr h
 | .label _,Q,fr,h=>Q .normal fr h
 | .seq a b,Q,fr,h=>nH P gl N lx a (iY (nH P gl N lx b Q) Q) fr h
 | .cond c x y,Q,fr,h=>(ev gl fr c).gd=true∧MQ (ev gl fr c).core (uh (nH P gl N lx x Q) (nH P gl N lx y Q) fr h)
 | .block id c,Q,fr,h=>nH P gl N lx c (jZ id Q) fr h
 | .exit id,Q,fr,h=>Q (.exit id) fr h
 | .ret,Q,fr,h=>Q .ret fr h
 | .region _ ops false,Q,fr,h=>iL P gl N false ops ops.toList (Q .normal) fr h
 | .region id ops true,Q,fr,h=>match lx id with
  | none=>lH ops=true∧iL P gl N true ops ops.toList (Q .normal) fr h
  | some (.last z L)=>(Bw ops z=true∧ny (au ops z) L=true)∧kQ P gl N (au ops z) (au ops z).toList [] [] (fun frs hs fr h=>iJ P gl N (au ops z) L frs hs∧iL P gl N false ops (ops.toList.drop z) (Q .normal) fr h) fr h
  | some (.perm ps)=>yQ ops (ps.map (·.1))=true∧lc P gl N ops (Q .normal) fr h ps
 | .loop c,Q,fr,h=>aW P gl N (.loop c) Q fr h
 | _,_,_,_=>False
section
variable {P : Program} {gl : aR} {N : Nat} {fr : aP} {h : ak} {lx : Nat → Option ug}
theorem aW.of_awpN (lx:Nat→Option ug)(hm:P.follows .mixedOrders=true): ∀(c:Code) (Q:dN) (fr:aP) (h:ak),nH P gl N lx c Q fr h→aW P gl N c Q fr h
 | .skip,Q,fr,h,hs=>aW.skip hs
 | .label _,Q,fr,h,hs=>aW.label hs
 | .seq a b,Q,fr,h,hs=>by
  refine aW.seq ((aW.of_awpN lx hm a _ fr h hs).mono ?_);intro e fr' h' q
  cases e with
  | normal=>exact aW.of_awpN lx hm b Q fr' h' q
  | _=>exact q
 | .cond c x y,Q,fr,h,hs=>by
  obtain⟨hg,hs⟩:=hs;unfold MQ at hs;split at hs
  ·rename_i t ht;intro J a w r;have re:=(qN (a:=a) r.heap (fun t' _=>r.tmps t'):aQ J (Own h J) w (ev gl fr c) (a.eval c)).core hg;rw [ht] at re;have hc:a.eval c= .bool t:=by
    generalize a.eval c=v at re;cases re
    rfl
   refine wp_cond hc ?_
   cases t with
   | true=>exact aW.of_awpN lx hm x Q fr h (hs.1 rfl) J a w r
   | false=>exact aW.of_awpN lx hm y Q fr h (hs.2 rfl) J a w r
  ·exact hs.elim
 | .block id c,Q,fr,h,hs=>aW.block (aW.of_awpN lx hm c _ fr h hs)
 | .exit id,Q,fr,h,hs=>aW.exit hs
 | .ret,Q,fr,h,hs=>aW.ret hs
 | .region _ ops false,Q,fr,h,hs=>aW.region hs
 | .region id ops true,Q,fr,h,hs=>by
  simp only [nH] at hs
  cases hl:lx id with
  | none=>rw [hl] at hs;exact aW.region_draw hm hs.1 hs.2
  | some r=>
   rw [hl] at hs
   cases r with
   | last z L=>exact aW.region_last z L hm hs.1.1 hs.1.2 hs.2
   | perm ps=>exact aW.region_perm ps hm hs.1 (fun q hq=>(uY hs.2 q hq).1) (fun q hq=>(uY hs.2 q hq).2)
 | .loop c,Q,fr,h,hs=>hs
 | .rangeFunc ..,_,_,_,hs=>hs.elim
 | .scope _,_,_,_,hs=>hs.elim
 | .goto _,_,_,_,hs=>hs.elim
 | .refuse _,_,_,_,hs=>hs.elim
theorem af.bodyN {f:FuncId} (lx:Nat→Option ug)(fn:Func)(c:Code) {args:List AV} {R:AV→ak→Prop} (hm:P.follows .mixedOrders=true)(hf:P.funcs[f]? =some fn)(hb:fn.body=some c)(hname:(fn.name== "runtime.NumGoroutine")=false)
  (hn:args.length≤fn.ntmps) (hc:nH P gl fn.ntmps lx c (p8 P fn R) (x9 args) h):af P gl f args h R:=
 af.of_body' hf hb hname hn (aW.of_awpN lx hm c _ _ _ hc)
theorem aW.upN {c:Code} {Q:dN} (lx:Nat→Option ug)(hm:P.follows .mixedOrders=true)(n:Nat)(I:Nat→aP→ak→Prop)(k:Nat)(hk:k≤n)(h0:I k fr h)
  (round: ∀k fr h,k≤n→I k fr h→nH P gl N lx c (iY (fun fr' h'=> ∃k',k<k'∧k'≤n∧I k' fr' h') Q) fr h):aW P gl N (.loop c) Q fr h:=
 aW.loop_up n I k hk h0 fun k fr h h1 h2=>aW.of_awpN lx hm c _ _ _ (round k fr h h1 h2)
end
section
variable {P : Program} {gl : aR} {N : Nat} {Q : dN} {fr : aP} {h : ak} {lx : Nat → Option ug} {ops : Array Oper}
@[simp] theorem XW:nH P gl N lx .skip Q fr h↔Q .normal fr h:=Iff.rfl
@[simp] theorem WF (l:Nat):nH P gl N lx (.label l) Q fr h↔Q .normal fr h:=Iff.rfl
@[simp] theorem YH (a b:Code):nH P gl N lx (.seq a b) Q fr h↔nH P gl N lx a (iY (nH P gl N lx b Q) Q) fr h:=Iff.rfl
@[simp] theorem XJ (c:Operand) (x y:Code):nH P gl N lx (.cond c x y) Q fr h↔(ev gl fr c).gd=true∧MQ (ev gl fr c).core (uh (nH P gl N lx x Q) (nH P gl N lx y Q) fr h):=Iff.rfl
@[simp] theorem WB (id:Nat) (c:Code):nH P gl N lx (.block id c) Q fr h↔nH P gl N lx c (jZ id Q) fr h:=Iff.rfl
@[simp] theorem XO (id:Nat):nH P gl N lx (.exit id) Q fr h↔Q (.exit id) fr h:=Iff.rfl
@[simp] theorem YE:nH P gl N lx .ret Q fr h↔Q .ret fr h:=Iff.rfl
@[simp] theorem VH (id:Nat):nH P gl N lx (.region id ops false) Q fr h↔iL P gl N false ops ops.toList (Q .normal) fr h:=Iff.rfl
@[simp] theorem XT (c:Code):nH P gl N lx (.loop c) Q fr h↔aW P gl N (.loop c) Q fr h:=Iff.rfl
@[simp] theorem bA (id:Nat) (ops:Array Oper):nH P gl N lx (.region id ops true) Q fr h↔(match lx id with
  | none=>lH ops=true∧iL P gl N true ops ops.toList (Q .normal) fr h
  | some (.last z L)=>(Bw ops z=true∧ny (au ops z) L=true)∧kQ P gl N (au ops z) (au ops z).toList [] [] (fun frs hs fr h=>iJ P gl N (au ops z) L frs hs∧iL P gl N false ops (ops.toList.drop z) (Q .normal) fr h) fr h
  | some (.perm ps)=>yQ ops (ps.map (·.1))=true∧lc P gl N ops (Q .normal) fr h ps):=Iff.rfl
@[simp] theorem VZ {K:aP→ak→Prop}:lc P gl N ops K fr h []↔True:=Iff.rfl
@[simp] theorem aA {K:aP→ak→Prop} (q:List Nat×List (Nat×Nat)) (ps:List (List Nat×List (Nat×Nat))):lc P gl N ops K fr h (q::ps)↔(ny (bi ops q.1) q.2=true∧kQ P gl N (bi ops q.1) (bi ops q.1).toList [] [] (fun frs hs fr h=>iJ P gl N (bi ops q.1) q.2 frs hs∧K fr h) fr h)∧lc P gl N ops K fr h ps:=Iff.rfl
end
end Go.Abs
end
