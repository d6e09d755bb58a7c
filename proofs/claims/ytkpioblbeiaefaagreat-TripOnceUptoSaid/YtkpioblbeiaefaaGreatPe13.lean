/- Part 13 of the lemmas below the statements of this seat: TollChain, TollWalk, TollWalkH, TripC, TollWalkL, TripD. -/
import Derived.Test.YtkpioblbeiaefaaGreatPe12
set_option linter.unusedSectionVars false
set_option linter.unusedVariables false
set_option linter.unusedSimpArgs false
set_option linter.unnecessarySimpa false
set_option maxRecDepth 100000
section
namespace Go.Toll
open Go Go.Abs
section
variable (G : Nat → Nat → Bool) (n : Nat)
def jP (i:Nat):List Nat:=(List.range n).filter (G i)
def iJ (i:Nat)(S:Nat→Nat)(l:List Nat)(m:Nat):Nat:=l.foldl (fun m j=>if i<j then max m (S j+1) else m) m
def xZ:Nat→(Nat→Nat)
 | 0=>fun _=>0
 | k+1=>fun j=>if j=n - 1 - k then iJ (n - 1 - k) (xZ k) (jP G n (n - 1 - k)) 1 else xZ k j
def kU (j:Nat):Nat:=xZ G n n j
theorem xS {i:Nat} {S S':Nat→Nat}: ∀ {l:List Nat} {m:Nat},(∀j∈l,i<j→S j=S' j)→iJ i S l m=iJ i S' l m
 | [],_,_=>rfl
 | j::r,m,h=>by
  have e:(if i<j then max m (S j+1) else m)=if i<j then max m (S' j+1) else m:=by
   by_cases c:i<j
   ·rw [if_pos c,if_pos c,h j (by simp) c]
   ·rw [if_neg c,if_neg c]
  show iJ i S r (if i<j then max m (S j+1) else m)=iJ i S' r (if i<j then max m (S' j+1) else m);rw [e];exact xS fun k hk=>h k (by simp [hk])
theorem Aq {i:Nat} {S:Nat→Nat}: ∀ {l:List Nat} {m:Nat},m≤iJ i S l m
 | [],_=>Nat.le_refl _
 | j::r,m=>by
  have:m≤if i<j then max m (S j+1) else m:=by split <;> omega
  exact Nat.le_trans this Aq
theorem GM {i:Nat} {S:Nat→Nat} {j:Nat} (hij:i<j): ∀ {l:List Nat} {m:Nat},j∈l→S j+1≤iJ i S l m
 | [],_,h=>by cases h
 | k::r,m,h=>by
  rcases List.mem_cons.1 h with rfl | h
  ·have:S j+1≤if i<j then max m (S j+1) else m:=by rw [if_pos hij];omega
   exact Nat.le_trans this Aq
  ·exact GM hij (l:=r) h
theorem Ar {i:Nat} {S:Nat→Nat}: ∀ {l:List Nat} {m:Nat},iJ i S l m=m∨ ∃j∈l,i<j∧iJ i S l m=S j+1
 | [],_=> .inl rfl
 | k::r,m=>by
  have e:iJ i S (k::r) m=iJ i S r (if i<k then max m (S k+1) else m):=rfl;rcases Ar (i:=i) (S:=S) (l:=r) (m:=if i<k then max m (S k+1) else m) with h | ⟨j,h1,h2,h3⟩
  ·by_cases c:i<k
   ·rw [if_pos c] at h e;rcases Nat.le_total m (S k+1) with q | q
    ·exact .inr ⟨k,by simp,c,by rw [e,h];omega⟩
    ·exact .inl (by rw [e,h];omega)
   ·rw [if_neg c] at h e;exact .inl (by rw [e,h])
  ·exact .inr ⟨j,by simp [h1],h2,by rw [e,h3]⟩
variable {G n}
theorem mD {i j:Nat}:j∈jP G n i↔j<n∧G i j=true:=by rw [jP,List.mem_filter,List.mem_range]
theorem GL (i:Nat):(jP G n i).length≤n:=by
 have:=List.length_filter_le (G i) (List.range n);rw [List.length_range] at this;exact this
theorem AR {j k:Nat} (h:n≤j+k): ∀d:Nat,k+d≤n→xZ G n (k+d) j=xZ G n k j
 | 0,_=>rfl
 | d+1,hd=>by
  have:j≠n - 1 - (k+d):=by omega
  show (if j=n - 1 - (k+d) then _ else xZ G n (k+d) j)=_;rw [if_neg this];exact AR h d (by omega)
theorem DW {j k:Nat} (h:n≤j+k)(hk:k≤n):xZ G n k j=kU G n j:=by
 have:=AR (G:=G) h (n - k) (by omega);rw [show k+(n - k)=n by omega] at this;exact this.symm
theorem AQ {i:Nat} (h:i<n):kU G n i=iJ i (kU G n) (jP G n i) 1:=by
 have e1:=DW (G:=G) (n:=n) (j:=i) (k:=n - 1 - i+1) (by omega) (by omega);rw [←e1];have e2:n - 1 - (n - 1 - i)=i:=by omega
 show (if i=n - 1 - (n - 1 - i) then iJ (n - 1 - (n - 1 - i)) (xZ G n (n - 1 - i)) (jP G n (n - 1 - (n - 1 - i))) 1 else _)=_;rw [e2,if_pos rfl];exact xS fun j hj hij=>DW (by omega) (by omega)
theorem OP {k j:Nat} (h:k<j)(hj:j<n)(hg:G k j=true):kU G n j+1≤kU G n k:=by
 rw [AQ (by omega:k<n)];exact GM h (mD.2 ⟨hj,hg⟩)
theorem Lm {k:Nat} (h:k<n):1≤kU G n k:=by rw [AQ h];exact Aq
theorem OO {k:Nat} (h:k<n):kU G n k=1∨ ∃j,k<j∧j<n∧G k j=true∧kU G n k=kU G n j+1:=by
 rw [AQ h];rcases Ar (i:=k) (S:=kU G n) (l:=jP G n k) (m:=1) with q | ⟨j,h1,h2,h3⟩
 ·exact .inl q
 ·exact .inr ⟨j,h2,(mD.1 h1).1,(mD.1 h1).2,h3⟩
theorem OM: ∀(d k:Nat),n - k≤d→k<n→kU G n k≤n - k
 | 0,k,h,hk=>by omega
 | d+1,k,h,hk=>by
  rcases OO (G:=G) hk with q | ⟨j,h1,h2,h3,h4⟩
  ·omega
  ·have:=OM d j (by omega) h2;omega
theorem y8 {k:Nat} (hk:k<n):kU G n k≤n:=by have:=OM (G:=G) (n - k) k (Nat.le_refl _) hk;omega
def pu (G:Nat→Nat→Bool)(n c:Nat):Nat:=(((List.range n).drop c).map (kU G n)).foldr max 0
theorem uL {c:Nat} (h:c<n):(List.range n).drop c=c::(List.range n).drop (c+1):=by
 rw [List.drop_eq_getElem_cons (by simpa using h)];simp
theorem r9 {c:Nat} (h:c<n):pu G n c=max (kU G n c) (pu G n (c+1)):=by
 rw [pu,uL h];rfl
theorem A8:pu G n n=0:=by rw [pu,zH (by simp)];rfl
theorem Lu : ∀ (d c : Nat), n - c = d → c ≤ n → pu G n c ≤ n
  | 0, c, h, hc => by obtain rfl : c = n := by omega
                      rw [A8]; omega
  | d + 1, c, h, hc => by
    rw [r9 (by omega)]
    have h1 := y8 (G := G) (n := n) (k := c) (by omega)
    have h2 := Lu d (c + 1) (by omega) (by omega)
    omega
theorem Fq: ∀(d c:Nat),n - c=d→ ∀j,c≤j→j<n→kU G n j≤pu G n c
 | 0,c,h,j,h1,h2=>by omega
 | d+1,c,h,j,h1,h2=>by
  rw [r9 (by omega)];rcases Nat.eq_or_lt_of_le h1 with rfl | h1
  ·omega
  ·have:=Fq d (c+1) (by omega) j h1 h2;omega
theorem Lv : ∀ (d c : Nat), n - c = d → c ≤ n → pu G n c = 0 ∨ ∃ j, c ≤ j ∧ j < n ∧ kU G n j = pu G n c
  | 0, c, h, hc => by obtain rfl : c = n := by omega
                      exact .inl A8
  | d + 1, c, h, hc => by
    rw [r9 (by omega)]
    have hp := Lm (G := G) (n := n) (k := c) (by omega)
    rcases Nat.le_total (pu G n (c + 1)) (kU G n c) with q | q
    · exact .inr ⟨c, by omega, by omega, by omega⟩
    · rcases Lv d (c + 1) (by omega) (by omega) with e | ⟨j, h1, h2, h3⟩
      · omega
      · exact .inr ⟨j, by omega, h2, by omega⟩
def NW (G:Nat→Nat→Bool)(last:Option Nat)(i:Nat):Bool:=last.all fun k=>G k i
def ow (G:Nat→Nat→Bool)(n:Nat):List Nat→Option Nat→Nat→List Nat
 | [],_,_=>[]
 | i::r,last,left=>if left=0 then [] else if kU G n i=left∧NW G last i=true then i::ow G n r (some i) (left - 1) else ow G n r last left
def qW (G:Nat→Nat→Bool)(n:Nat):List Nat:=ow G n (List.range n) none (pu G n 0)
theorem Bt {l:List Nat} {last:Option Nat}:ow G n l last 0=[]:=by cases l <;> simp [ow]
def KW (G:Nat→Nat→Bool)(n:Nat):Option Nat→List Nat→Prop
 | _,[]=>True
 | last,i::r=>i<n∧(∀k,last=some k→k<i∧G k i=true)∧KW G n (some i) r
theorem KW.len: ∀ {r:List Nat} {i:Nat} {last:Option Nat},KW G n last (i::r)→r.length+1≤kU G n i
 | [],i,_,h=>Lm h.1
 | j::r,i,_,h=>by
  obtain⟨h1,_,h3⟩:=h;have h4:=KW.len h3;obtain⟨h5,h6,_⟩:=h3;obtain⟨h7,h8⟩:=h6 i rfl;have:=OP h7 h5 h8;simp only [List.length_cons];omega
def Qe (G:Nat→Nat→Bool)(n c:Nat)(last:Option Nat)(left:Nat):Prop:=left=0∨ ∃j,c≤j∧j<n∧kU G n j=left∧NW G last j=true
theorem Qe.next {c:Nat} {last:Option Nat} {left:Nat} (h:Qe G n c last left)(hn: ¬(kU G n c=left∧NW G last c=true))(hl:left≠0):Qe G n (c+1) last left:=by
 rcases h with h | ⟨j,h1,h2,h3⟩
 ·exact absurd h hl
 ·rcases Nat.eq_or_lt_of_le h1 with rfl | h1
  ·exact absurd h3 hn
  ·exact .inr ⟨j,h1,h2,h3⟩
theorem Qe.pick {c left:Nat} (hc:c<n)(h:kU G n c=left):Qe G n (c+1) (some c) (left - 1):=by
 rcases OO (G:=G) hc with q | ⟨j,h1,h2,h3,h4⟩
 ·exact .inl (by omega)
 ·exact .inr ⟨j,h1,h2,by omega,by simpa [NW] using h3⟩
theorem Qe.start:Qe G n 0 none (pu G n 0):=by
 rcases Lv (G:=G) n 0 rfl (by omega) with h | ⟨j,h1,h2,h3⟩
 ·exact .inl h
 ·exact .inr ⟨j,h1,h2,h3,rfl⟩
def lexB:List Nat→List Nat→Bool
 | a::r,b::q=>if a≠b then decide (a<b) else lexB r q
 | _,_=>false
theorem uJ: ∀(d c:Nat) (last:Option Nat) (left:Nat),n - c=d→(∀k,last=some k→k<c)→Qe G n c last left→
  KW G n last (ow G n ((List.range n).drop c) last left)∧(∀j∈ow G n ((List.range n).drop c) last left,c≤j∧j<n)∧(ow G n ((List.range n).drop c) last left).length=left∧
  ((∀j,c≤j→j<n→NW G last j=true→kU G n j≤left)→ ∀J,KW G n last J→(∀j,J.head? =some j→c≤j)→J.length=left→lexB J (ow G n ((List.range n).drop c) last left)=false)
 | 0,c,last,left,hd,hl,hE=>by
  rcases hE with rfl | ⟨j,h1,h2,_⟩
  ·rw [Bt];exact⟨trivial,by simp,rfl,fun _ J _ _ hJ=>by rw [List.length_eq_zero_iff.1 hJ];rfl⟩
  ·omega
 | d+1,c,last,left,hd,hl,hE=>by
  have hc:c<n:=by omega
  rw [uL hc,ow];by_cases h0:left=0
  ·rw [if_pos h0];subst h0;exact⟨trivial,by simp,rfl,fun _ J _ _ hJ=>by rw [List.length_eq_zero_iff.1 hJ];rfl⟩
  rw [if_neg h0];by_cases hp:kU G n c=left∧NW G last c=true
  ·rw [if_pos hp];obtain⟨q1,q2,q3,q4⟩:=uJ d (c+1) (some c) (left - 1) (by omega) (fun k e=>by cases e;omega) (Qe.pick hc hp.1);refine⟨⟨hc,fun k e=>⟨hl k e,?_⟩,q1⟩,?_,by simp [q3];omega,?_⟩
   ·have:=hp.2;rw [e] at this;simpa [NW] using this
   ·intro j hj;rcases List.mem_cons.1 hj with rfl | hj
    ·omega
    ·have:=q2 j hj;omega
   ·intro hb J hJ hh hlen
    cases J with
    | nil=>rfl
    | cons j r=>
     have hj:=hh j rfl;rw [lexB];by_cases e:j=c
     ·subst e;rw [if_neg (by simp)];obtain⟨_,_,h3⟩:=hJ;refine q4 (fun k h1 h2 h4=> ?_) r h3 ?_ (by simp at hlen;omega)
      ·have:=OP (G:=G) (k:=j) (j:=k) (by omega) h2 (by simpa [NW] using h4);omega
      ·intro k hk
       cases r with
       | nil=>simp at hk
       | cons k' r=>
        simp at hk;subst hk;exact (h3.2.1 j rfl).1
     ·rw [if_pos e];simp;omega
  ·rw [if_neg hp];obtain⟨q1,q2,q3,q4⟩:=uJ d (c+1) last left (by omega) (fun k e=>by have:=hl k e;omega) (hE.next hp h0);refine⟨q1,fun j hj=>by have:=q2 j hj;omega,q3,?_⟩;intro hb J hJ hh hlen;refine q4 (fun j h1 h2 h3=>hb j (by omega) h2 h3) J hJ ?_ hlen;intro j hj;have h1:=hh j hj;rcases Nat.eq_or_lt_of_le h1 with rfl | h1
   ·exfalso
    cases J with
    | nil=>simp at hj
    | cons k r=>
     simp at hj;subst hj;have h5:=KW.len hJ;have h6:NW G last k=true:=by
      cases last with
      | none=>rfl
      | some m=>simpa [NW] using (hJ.2.1 m rfl).2
     have h7:=hb k (by omega) hc h6;simp at hlen;exact hp ⟨by omega,h6⟩
   ·exact h1
theorem ol:KW G n none (qW G n)∧(∀j∈qW G n,j<n)∧(qW G n).length=pu G n 0∧ ∀J,KW G n none J→J.length≤(qW G n).length∧(J.length=(qW G n).length→lexB J (qW G n)=false):=by
 obtain⟨q1,q2,q3,q4⟩:=uJ (G:=G) n 0 none (pu G n 0) rfl (fun k e=>by cases e) Qe.start;simp only [List.drop_zero] at q1 q2 q3 q4;refine⟨q1,fun j hj=>(q2 j hj).2,q3,fun J hJ=>⟨?_,fun e=> ?_⟩⟩
 ·rw [qW,q3]
  cases J with
  | nil=>simp
  | cons j r=>
   have h1:=hJ.len;have h2:=Fq (G:=G) (n:=n) n 0 rfl j (by omega) hJ.1;simp;omega
 ·rw [qW,q3] at e;exact q4 (fun j h1 h2 h3=>Fq (G:=G) n 0 rfl j (by omega) h2) J hJ (fun _ _=>by omega) e
theorem KW.asc: ∀ {l:List Nat} {last:Option Nat},KW G n last l→l.Pairwise (· < ·)∧ ∀k,last=some k→ ∀j∈l,k<j
 | [],_,_=>⟨.nil,by simp⟩
 | i::r,last,h=>by
  obtain⟨h1,h2,h3⟩:=h;obtain⟨q1,q2⟩:=KW.asc h3;refine⟨List.pairwise_cons.2 ⟨fun j hj=>q2 i rfl j hj,q1⟩,fun k e j hj=> ?_⟩;have:=(h2 k e).1;rcases List.mem_cons.1 hj with rfl | hj
  ·exact this
  ·have:=q2 i rfl j hj;omega
where asc_len: ∀(l:List Nat),l.Pairwise (· < ·)→ ∀ {c n:Nat},(∀j∈l,c≤j∧j<n)→l.length≤n - c
 | [],_,_,_,_=>by simp
 | i::r,h,c,n,hr=>by
  obtain⟨h1,h2⟩:=List.pairwise_cons.1 h;have:=asc_len r h2 (c:=i+1) (n:=n) fun j hj=>⟨h1 j hj,(hr j (by simp [hj])).2⟩;have:=hr i (by simp);simp;omega
end
def bK (n:Nat):List AV:=[.int .i64 n]
@[simp] theorem Ud (n:Nat):(bK n).length=1:=rfl
@[simp] theorem SH (n:Nat):(bK n).tail=[]:=rfl
def fe (v:bg)(a b:aA):Bool:=xO v a.point b.point a.time b.time
def gL (v:bg)(l:List aA)(i j:Nat):Bool:=match l[i]?,l[j]? with
 | some a,some b=>fe v a b
 | _,_=>false
theorem Ru {v:bg} {l:List aA} {i j:Nat} {a b:aA} (ha:l[i]? =some a)(hb:l[j]? =some b):gL v l i j=fe v a b:=by rw [gL,ha,hb]
def yD (G:Nat→Nat→Bool)(i j:Nat):List Nat:=(List.range j).filter (G i)
theorem Ms (G:Nat→Nat→Bool)(i j:Nat):yD G i (j+1)=if G i j=true then yD G i j++[j] else yD G i j:=by
 rw [yD,List.range_succ,List.filter_append,yD];by_cases c:G i j=true
 ·rw [if_pos c,List.filter_cons_of_pos c];rfl
 ·rw [if_neg c,List.filter_cons_of_neg c];simp
theorem OC (G:Nat→Nat→Bool)(i j:Nat):(yD G i j).length≤j:=by
 have:=List.length_filter_le (G i) (List.range j);rwa [List.length_range] at this
def EN (v:bg):List aA→Bool
 | a::b::r=>fe v a b && EN v (b::r)
 | _=>true
structure mP where
 id:Bytes
 why:Int
deriving DecidableEq
def bf (x:mP):List AV:=[.str x.id,.int .i64 x.why]
@[simp] theorem SG (x:mP):(bf x).length=2:=rfl
def yF (I:List Nat)(l:List aA)(i:Nat):List aA:=((List.range i).filter fun j=>decide (j∈I)).filterMap fun j=>l[j]?
def mF (I:List Nat)(l:List aA)(i:Nat):List mP:=((List.range i).filter fun j=> !decide (j∈I)).filterMap fun j=>(l[j]?).map fun p=>⟨p.id,9⟩
theorem G7 {I:List Nat} {l:List aA} {i:Nat} {p:aA} (h:l[i]? =some p):yF I l (i+1)=if i∈I then yF I l i++[p] else yF I l i:=by
 rw [yF,List.range_succ,List.filter_append,List.filterMap_append,←yF];by_cases c:i∈I
 ·rw [if_pos c,List.filter_cons_of_pos (by simpa using c)];simp [h]
 ·rw [if_neg c,List.filter_cons_of_neg (by simpa using c)];simp
theorem D7 {I:List Nat} {l:List aA} {i:Nat} {p:aA} (h:l[i]? =some p):mF I l (i+1)=if i∈I then mF I l i else mF I l i++[⟨p.id,9⟩]:=by
 rw [mF,List.range_succ,List.filter_append,List.filterMap_append,←mF];by_cases c:i∈I
 ·rw [if_pos c,List.filter_cons_of_neg (by simpa using c)];simp
 ·rw [if_neg c,List.filter_cons_of_pos (by simpa using c)];simp [h]
theorem vP (I:List Nat)(l:List aA)(i:Nat):(yF I l i).length≤i:=by
 refine Nat.le_trans (List.length_filterMap_le _ _) ?_;have:=List.length_filter_le (fun j=>decide (j∈I)) (List.range i);rwa [List.length_range] at this
theorem Bd (I:List Nat)(l:List aA)(i:Nat):(mF I l i).length≤i:=by
 refine Nat.le_trans (List.length_filterMap_le _ _) ?_;have:=List.length_filter_le (fun j=> !decide (j∈I)) (List.range i);rwa [List.length_range] at this
theorem Lg {I:List Nat} {l:List aA} {i:Nat} {p:aA} (h:p∈yF I l i):p∈l:=by
 obtain⟨j,_,hj⟩:=List.mem_filterMap.1 h;exact zF hj
def kK (I:List Nat)(i:Nat):List Nat:=I.filter fun j=>decide (i≤j)
theorem BD (I:List Nat):kK I 0=I:=by simp [kK]
theorem pJ: ∀ {I:List Nat} {i:Nat},I.Pairwise (· < ·)→kK I i=if i∈I then i::kK I (i+1) else kK I (i+1)
 | [],i,_=>by simp [kK]
 | j::r,i,h=>by
  obtain⟨h1,h2⟩:=List.pairwise_cons.1 h;have ih:=pJ (i:=i) h2;unfold kK at ih ⊢;rcases Nat.lt_trichotomy j i with q | q | q
  ·rw [List.filter_cons_of_neg (by simp;omega),List.filter_cons_of_neg (by simp;omega),ih];have:i∈j::r↔i∈r:=by simp;omega
   simp only [this]
  ·subst q;rw [List.filter_cons_of_pos (by simp),List.filter_cons_of_neg (by simp),if_pos (by simp),ih];have hn:j∉r:=fun c=>by have:=h1 j c;omega
   rw [if_neg hn]
  ·rw [List.filter_cons_of_pos (by simp;omega),List.filter_cons_of_pos (by simp;omega),ih];have hn:i∉r:=fun c=>by have:=h1 i c;omega
   rw [if_neg hn,if_neg (by simp;exact⟨by omega,hn⟩)]
theorem Nf {I:List Nat} {i j:Nat} (h:j∈kK I i):j∈I:=(List.mem_filter.1 h).1
theorem Ke {I:List Nat} {i:Nat} (h:I.Pairwise (· < ·)):(∃r,kK I i=i::r)↔i∈I:=by
 constructor
 ·rintro⟨r,e⟩;exact Nf (i:=i) (by rw [e];simp)
 ·intro c;exact⟨_,by rw [pJ h,if_pos c]⟩
end Go.Toll
end
section
namespace Go.Toll
open Go Go.Abs
def fH (l:List aA):List aA:=aP (fun a b=>decide (Gy a b<0)) l
def yl (S:List aA)(i:Nat)(p:aA):Bool:=(S.take i).any fun q=>decide (q.id=p.id)
def gq (S:List aA):Nat→List aA
 | 0=>[]
 | i+1=>match S[i]? with
  | some p=>if yl S i p=true then gq S i else gq S i++[p]
  | none=>gq S i
def bT (l:List aA):List aA:=gq (fH l) (fH l).length
theorem JZ {S:List aA} {i:Nat} {p:aA} (h:S[i]? =some p):gq S (i+1)=if yl S i p=true then gq S i else gq S i++[p]:=by rw [gq,h]
theorem sj (S:List aA): ∀i:Nat,(gq S i).length≤i
 | 0=>by simp [gq]
 | i+1=>by
  have ih:=sj S i;rw [gq];split
  ·split
   ·omega
   ·simp;omega
  ·omega
theorem lU {S:List aA}: ∀ {i:Nat} {p:aA},p∈gq S i→p∈S.take i
 | 0,p,h=>by simp [gq] at h
 | i+1,p,h=>by
  rw [gq] at h;split at h
  ·rename_i q hq;have hm: ∀x,x∈S.take i→x∈S.take (i+1):=fun x hx=>by rw [zM];exact List.mem_append_left _ hx
   split at h
   ·exact hm _ (lU h)
   ·rcases List.mem_append.1 h with h | h
    ·exact hm _ (lU h)
    ·obtain rfl:=List.mem_singleton.1 h;rw [zM,hq];simp
  ·rw [zM];exact List.mem_append_left _ (lU h)
theorem uH {S:List aA} {p:aA}: ∀i:Nat,(gq S i).any (fun q=>decide (q.id=p.id))=yl S i p
 | 0=>by simp [gq,yl]
 | i+1=>by
  have ih:=uH (S:=S) (p:=p) i;unfold yl at*;rw [gq,zM,List.any_append]
  cases hq:S[i]? with
  | none=>simp [ih]
  | some q=>
   simp only [Option.toList_some];split
   ·rename_i h;rw [ih];by_cases c:q.id=p.id
    ·have:(S.take i).any (fun x=>decide (x.id=p.id))=true:=by rw [←c];exact h
     rw [this];rfl
    ·simp [c]
   ·rw [List.any_append,ih]
theorem H8 {S:List aA}: ∀i:Nat,((gq S i).map (·.id)).Nodup
 | 0=>by simp [gq]
 | i+1=>by
  have ih:=H8 (S:=S) i;rw [gq];split
  ·rename_i q hq;split
   ·exact ih
   ·rename_i h;rw [←uH,Bool.not_eq_true,List.any_eq_false] at h;rw [List.map_append,List.nodup_append];refine⟨ih,by simp,fun a ha b hb=> ?_⟩;obtain⟨x,hx,rfl⟩:=List.mem_map.1 ha;simp at hb;subst hb;have:=h x hx;simpa using this
  ·exact ih
theorem yY (a b:Bytes):jH a b=Lib.compareBytes a b:=by
 unfold jH;have h1:=vE a b;have h2:=nR a b;have h3:=wS a b;split
 ·rename_i h;exact (h1.2 h).symm
 ·rename_i h;have h0:Lib.compareBytes a b≠0:=fun e=>h (h1.1 e);split
  ·rename_i hl;rw [hl] at h2;have:=of_decide_eq_true h2;omega
  ·rename_i hl;rw [Bool.not_eq_true] at hl;rw [hl] at h2;have:=of_decide_eq_false h2;omega
theorem qO (a b:Int):df [a,b]=if a=0 then (if b=0 then 0 else b) else a:=by
 simp only [df];by_cases h1:a=0 <;> by_cases h2:b=0 <;> simp [h1,h2]
def Vi (x:List AV):Bytes:=strOf (x.getD 0 .junk)
def IQ (x:List AV):Int:=match x.getD 4 .junk with
 | .ro (e::_)=>intOf (e.getD 1 .junk)
 | _=>0
def wH (x y:List AV):Int:=df [iw (IQ x) (IQ y),jH (Vi x) (Vi y)]
def Ve (x y:List AV):Int:=jH (Vi x) (Vi y)
theorem J5:iq wH:=by
 have:=(Bc.comap IQ).lex ((mE.comap Vi).lex uI);refine Eq.mp (congrArg iq ?_) this;funext x y
 rw [wH,qO,yY];rfl
def Ca (x:bQ):Int:=(x.stops.headD ⟨[],0,[]⟩).time
def qH (x y:bQ):Int:=df [iw (Ca x) (Ca y),jH x.id y.id]
theorem Eo {x:bQ} (h:x.stops≠[]):IQ (aB x)=Ca x:=by
 obtain⟨a,l,hl⟩:=List.exists_cons_of_ne_nil h;simp [IQ,aB,Ca,hl,af,intOf]
theorem Ep {x y:bQ} (hx:x.stops≠[])(hy:y.stops≠[]):wH (aB x) (aB y)=qH x y:=by rw [wH,Eo hx,Eo hy];rfl
def zV (x y:mP):Int:=jH x.id y.id
def gP (l:List bQ):List bQ:=aP (fun x y=>decide (qH x y<0)) l
def jb (l:List mP):List mP:=aP (fun x y=>decide (zV x y<0)) l
theorem J4:iq qH:=by
 have:=(Bc.comap Ca).lex ((mE.comap bQ.id).lex uI);refine Eq.mp (congrArg iq ?_) this;funext x y
 rw [qH,qO,yY];rfl
theorem J3:iq zV:=by
 refine Eq.mp (congrArg iq ?_) (mE.comap mP.id);funext x y
 rw [zV,yY]
structure dh where
 trips:List bQ
 out:List mP
 opn:List bn
 before:Bytes
 last:Bytes
def gG (why:Int)(l:List bn):List mP:=(l.filter Ug).map fun s=>⟨s.pass,why⟩
theorem Jv {why:Int} {l:List bn} {i:Nat} {s:bn} (h:l[i]? =some s):gG why (l.take (i+1))=if s.pass=[] then gG why (l.take i) else gG why (l.take i)++[⟨s.pass,why⟩]:=by
 rw [zM,h];by_cases c:s.pass=[] <;> simp [gG,Ug,c]
theorem gU (why:Int)(l:List bn):(gG why l).length≤l.length:=by rw [gG,List.length_map];exact List.length_filter_le _ _
def qg (l:List Int)(c:Int):Nat:=(l.filter fun n=>decide (n=c)).length
def pq (l:List Int):Nat→Int
 | 0=>0
 | k+1=>if 0<qg l (k+1:Nat)∧(pq l k=0∨qg l (pq l k)<qg l (k+1:Nat)) then ((k+1:Nat):Int) else pq l k
def MO (l:List Int):Int:=pq l 9
def p9 (t:aZ)(veh:Bytes)(cls:Bytes→Int)(l:List bn)(before:Bytes):bQ:=
 let a:=l.headD ⟨[],0,[]⟩
 let id:=(aQ l).headD []
 ⟨if id=[] then before++[43]++a.point else id,veh,iM t a.point,max (MO ((aQ l).map cls)) 1,l⟩
def sameB (t:aZ)(opn:List bn)(s:bn):Bool:=match opn with
 | []=>false
 | a::_=>decide (iM t a.point=iM t s.point)
def GH (t:aZ)(opn:List bn)(s:bn):Bool:=match opn with
 | []=>false
 | a::_=>decide (iM t a.point=iM t s.point) && decide (s.time - a.time≤wF t a.point)
def uf (t:aZ)(opn:List bn)(s:bn):Nat:=
 if kindOf t s.point=1 then 0 else if kindOf t s.point=2 then 1
 else if kindOf t s.point=3 then (if GH t opn s=true then 2 else 4)
 else if opn≠[]∧((dQ t s.point).isSome=false∨sameB t opn s=true) then 3 else 5
def qw (t:aZ)(veh:Bytes)(cls:Bytes→Int)(w:dh)(s:bn):dh:=match uf t w.opn s with
 | 0=> { w with trips:=w.trips++[p9 t veh cls [s] w.last] }
 | 1=> { w with out:=w.out++gG 11 w.opn,opn:=[s],before:=w.last }
 | 2=> { w with trips:=w.trips++[p9 t veh cls (w.opn++[s]) w.before],opn:=[] }
 | 3=> { w with opn:=w.opn++[s] }
 | 4=> { w with out:=w.out++gG 11 w.opn++gG 10 [s],opn:=[] }
 | _=> { w with out:=w.out++gG 12 [s] }
def dE (t:aZ)(veh:Bytes)(cls:Bytes→Int)(w:dh)(s:bn):dh:=
 if s.pass=[] then qw t veh cls w s else { qw t veh cls w s with last:=s.pass }
def vH (w:dh):dh:= { w with out:=w.out++gG 11 w.opn,opn:=[] }
def iK (t:aZ)(l:List aA):List mP:=(l.filter fun p=>decide (kindOf t p.point=0)).map fun p=>⟨p.id,3⟩
def bB (t:aZ)(l:List aA):List aA:=l.filter fun p=> !decide (kindOf t p.point=0)
def cK (t:aZ)(l:List aA)(others:List mP):dh:=⟨[],iK t l++others,[],[],[]⟩
def NQ (t:aZ)(veh:Bytes)(cls:Bytes→Int)(w:dh)(stops:List bn):dh:=vH (stops.foldl (dE t veh cls) w)
def encZ' (n:Int):AV:= .int .i64 n
def iF (t:aZ)(veh:Bytes)(mb:Nat)(tr ou op:AV)(before last:Bytes):List AV:=
 [.ro (t.net.pts.map eB),.ro (t.net.lks.map nT),.ro (t.sys.map dC),.str veh,.map mb,tr,ou,op,.str before,.str last]
@[simp] theorem VP (t:aZ) (veh:Bytes) (mb:Nat) (tr ou op:AV) (before last:Bytes):(iF t veh mb tr ou op before last).length=10:=rfl
structure u6 (t:aZ)(veh:Bytes)(mb:Nat)(m:List (Bytes×Int))(b lo:Nat)(H:ae)(tr ou op:AV)(w:dh):Prop where
 blk:H[b]? =some (.cells 10 [iF t veh mb tr ou op w.before w.last])
 mp:H[mb]? =some (.map (sM encZ' m))
 trips:Ls 5 lo H tr (w.trips.map aB)
 out:Ls 2 lo H ou (w.out.map bf)
 low:lo≤b
 lom:lo≤mb
structure nL (lo:Nat)(H H':ae):Prop where
 base: ∀h0:ae,h0.length≤lo→(∃g,H=h0++g)→ ∃g,H'=h0++g
 stops: ∀(k:Nat) (es:List (List AV)),H[k]? =some (.cells 3 es)→H'[k]? =some (.cells 3 es)
theorem nL.refl (lo:Nat)(H:ae):nL lo H H:=⟨fun _ _ h=>h,fun _ _ h=>h⟩
theorem nL.trans {lo:Nat} {H H' H'':ae} (a:nL lo H H')(b:nL lo H' H''):nL lo H H'':=⟨fun h0 hl hb=>b.base h0 hl (a.base h0 hl hb),fun k es hk=>b.stops k es (a.stops k es hk)⟩
theorem nL.more {lo:Nat} {H H':ae} (a:nL lo H H')(g:ae):nL lo H (H'++g):=
 ⟨fun h0 hl hb=>aF (a.base h0 hl hb) g,fun k es hk=>aL (a.stops k es hk) g⟩
theorem nL.set {lo:Nat} {H H':ae} (a:nL lo H H') {b n:Nat} {es:List (List AV)} (hb:H'[b]? =some (.cells n es))(hn:n≠3)(hl:lo≤b)(o:bU):nL lo H (H'.set b o):=
 ⟨fun h0 h1 hg=>dI (a.base h0 h1 hg) (by omega) o,fun k es' hk=>by
  have h1:=a.stops k es' hk;by_cases e:k=b
  ·subst e;rw [hb] at h1;injection h1 with h1;injection h1 with h1 _;exact absurd h1 hn
  ·rw [zJ (fun c=>e c.symm)];exact h1⟩
theorem nL.grow {lo n:Nat} {H H' H'':ae} {x:AV} {es:List (List AV)} (a:nL lo H H')(hx:Ls n lo H' x es)(hn:n≠3)(g:Grow lo H' x H''):nL lo H H'':=
 ⟨fun h0 h1 hg=>g.base h0 h1 (a.base h0 h1 hg),fun k es' hk=>by
  have h1:=a.stops k es' hk;refine g.keep k _ h1 fun off len e=> ?_;rcases hx.1 with⟨e1,_⟩ | ⟨b,e1,_,hb⟩
  ·rw [e1] at e;cases e
  ·rw [e1] at e;injection e with e2;subst e2;rw [hb] at h1;injection h1 with h1;injection h1 with h1 _;exact absurd h1 hn⟩
theorem nL.ls {lo lo':Nat} {H H':ae} (a:nL lo H H') {x:AV} {es:List (List AV)} (hx:Ls 3 lo' H x es):Ls 3 lo' H' x es:=by
 obtain⟨h1,h2⟩:=hx;refine⟨?_,h2⟩;rcases h1 with h1 | ⟨b,e,hl,hb⟩
 ·exact .inl h1
 ·exact .inr ⟨b,e,hl,a.stops b _ hb⟩
theorem nL.rs {lo:Nat} {H H':ae} (a:nL lo H H') {x:AV} {es:List (List AV)} (hx:Rs 3 H x es):Rs 3 H' x es:=by
 rcases hx with⟨rfl | ⟨b,off,all,rfl,hb,he⟩,hn⟩ | hr
 ·exact .inl ⟨.inl rfl,hn⟩
 ·exact .inl ⟨.inr ⟨b,off,all,rfl,a.stops b _ hb,he⟩,hn⟩
 ·exact .inr hr
theorem qX {n m lo:Nat} {H:ae} {x:AV} {es:List (List AV)} {b:Nat} {es':List (List AV)} (hx:Ls n lo H x es)(hb:H[b]? =some (.cells m es'))(hnm:m≠n): ∀off len,x≠ .own b off len:=by
 intro off len e;rcases hx.1 with⟨e1,_⟩ | ⟨b',e1,_,hb'⟩
 ·rw [e1] at e;cases e
 ·rw [e1] at e;injection e with e2;subst e2;rw [hb] at hb';injection hb' with h1;injection h1 with h1 _;exact hnm h1
theorem jV {n lo:Nat} {H:ae} {x:AV} {es:List (List AV)} {b:Nat} {kv:List (AV×AV)} (hx:Ls n lo H x es)(hb:H[b]? =some (.map kv)): ∀off len,x≠ .own b off len:=by
 intro off len e;rcases hx.1 with⟨e1,_⟩ | ⟨b',e1,_,hb'⟩
 ·rw [e1] at e;cases e
 ·rw [e1] at e;injection e with e2;subst e2;rw [hb] at hb';cases hb'
theorem iB {n m lo:Nat} {H:ae} {x:AV} {es:List (List AV)} {b:Nat} {es':List (List AV)} (hx:Ls n lo H x es)(hb:H[b]? =some (.cells m es'))(hnm:m≠n)(o:bU):Ls n lo (H.set b o) x es:=by
 obtain⟨h1,h2⟩:=hx;refine⟨?_,h2⟩;rcases h1 with h1 | ⟨b',e,hl,hb'⟩
 ·exact .inl h1
 ·refine .inr ⟨b',e,hl,?_⟩;have:b≠b':=by
   rintro rfl;rw [hb] at hb';injection hb' with h1;injection h1 with h1 _;exact hnm h1
  rw [zJ this];exact hb'
theorem get_put {H:ae} {b k:Nat} {o o' p:bU} (hb:H[b]? =some o)(hk:H[k]? =some o')(hne:b≠k):(H.set b p)[k]? =some o':=by
 rw [zJ hne];exact hk
theorem gp {n m lo lo':Nat} {H H':ae} {x y:AV} {es es':List (List AV)} (hx:Ls n lo H x es)(hy:Ls m lo' H y es')(hnm:n≠m)(g:Grow lo' H y H'):Ls n lo H' x es:=by
 obtain⟨h1,h2⟩:=hx;refine⟨?_,h2⟩;rcases h1 with h1 | ⟨b,e,hl,hb⟩
 ·exact .inl h1
 ·exact .inr ⟨b,e,hl,g.keep b _ hb (qX hy hb hnm)⟩
theorem Tk {n m:Nat} {H:ae} {b k:Nat} {es es':List (List AV)} (hb:H[b]? =some (.cells n es))(hk:H[k]? =some (.cells m es'))(hnm:n≠m):b≠k:=by
 rintro rfl;rw [hb] at hk;injection hk with h1;injection h1 with h1 _;exact hnm h1
theorem nz {n:Nat} {H:ae} {b k:Nat} {es:List (List AV)} {kv:List (AV×AV)} (hb:H[b]? =some (.cells n es))(hk:H[k]? =some (.map kv)):b≠k:=by
 rintro rfl;rw [hb] at hk;cases hk
theorem u6.more {t:aZ} {veh:Bytes} {mb:Nat} {m:List (Bytes×Int)} {b lo:Nat} {H:ae} {tr ou op:AV} {w:dh} (h:u6 t veh mb m b lo H tr ou op w)(g:ae):u6 t veh mb m b lo (H++g) tr ou op w:=
 ⟨aL h.blk g,aL h.mp g,h.trips.more g,h.out.more g,h.low,h.lom⟩
theorem u6.put {t:aZ} {veh:Bytes} {mb:Nat} {m:List (Bytes×Int)} {b lo:Nat} {H:ae} {tr ou op:AV} {w:dh} (h:u6 t veh mb m b lo H tr ou op w)(op':AV) {w':dh} (e1:w'.trips=w.trips)(e2:w'.out=w.out):
  u6 t veh mb m b lo (H.set b (.cells 10 [iF t veh mb tr ou op' w'.before w'.last])) tr ou op' w':=
 ⟨zI (aK h.blk),get_put h.blk h.mp (nz h.blk h.mp),by rw [e1];exact iB h.trips h.blk (by decide) _,by rw [e2];exact iB h.out h.blk (by decide) _,h.low,h.lom⟩
end Go.Toll
end
section
namespace Go.Proofs.YtkpioblbeiaefaaGreat
open Go Go.Abs Go.Toll
variable {gl : aM} {h : ae}
def JU:Nat→Option (List (Nat×Nat)):=fun id=>if id=4 then some [(4,10)] else none
set_option maxHeartbeats 4000000 in
theorem pR (why:Int)(l:List bn)(x:AV) {t:aZ} {veh:Bytes} {mb:Nat} {m:List (Bytes×Int)} {b lo:Nat} {tr ou op:AV} {w:dh} (hw:u6 t veh mb m b lo h tr ou op w)(hx:Rs 3 h x (l.map af))
  (hl:l.length≤100000) (ho:w.out.length≤1000000) (hopf:op.core=op∧op.gd=true∧op.solid=true∧ai op=[op]):aa Tryz.prog gl 112 [.ptr b 0 0,.int .i64 why,x] h fun v h'=>v= .tup []∧(∃ou',u6 t veh mb m b lo h' tr ou' op { w with out:=w.out++gG why l })∧nL lo h h':=by
 refine aa.bodyL JU Tryz.f112 _ mixed Tryz.func112 rfl rfl (by simp [Tryz.ntmps112]) ?_;have fx:=hx.fix;have lx:=hx.len2;simp [JU,fx,lx];refine aT.upL JU mixed l.length (fun i fr H=>fr 0= .ptr b 0 0∧fr 1= .int .i64 why∧fr 8=x∧fr 9= .int .i64 l.length∧fr 10= .int .i64 i∧(∃ou',u6 t veh mb m b lo H tr ou' op { w with out:=w.out++gG why (l.take i) })∧nL lo h H) 0 (by omega)
  ⟨by simp,by simp,by simp,by simp,by simp,⟨ou,by simpa [gG] using hw⟩,nL.refl _ _⟩ ?_
 rintro i fr H hi ⟨e0,e1,e8,e9,e10,⟨ou',hW⟩,hK⟩;have hxH:=hK.rs hx;have hb3:=at3 hW.blk;simp only [iF] at hb3;have htf:=hW.trips.rs.fix;have hof:=hW.out.rs.fix;have hbl:=hb3.2.1;rcases zN i l.length with hlt | hge
 ·obtain⟨s,hs,hs'⟩:=aN hlt;have ew:=aC (i:=i) (by omega);have hsuc:=Jv (why:=why) hs;have hel:=gU why (l.take i);have htl:=List.length_take_le i l;have rx:=Rs.ix Tryz.prog hxH i (by omega) (y:=af s) (by simp [hs]);have fxH:=hxH.fix;have lxH:=hxH.len2;simp only [af] at rx;by_cases c:s.pass=[]
  ·rw [if_pos c] at hsuc;simp [JU,e0,e1,e8,e9,e10,hlt,fxH,lxH,rx,c,ew];refine⟨i+1,by omega,by omega,by omega,⟨ou',?_⟩,hK.more _⟩;rw [hsuc];exact⟨aL hW.blk _,aL hW.mp _,hW.trips.more _,hW.out.more _,hW.low,hW.lom⟩
  ·rw [if_neg c] at hsuc;have hb3':=at3 (aL hW.blk [.cells 3 [[.str s.point,.int .i64 s.time,.str s.pass]]]);have hb3'':=at3 (aL hW.blk [.cells 3 [[.str s.point,.int .i64 s.time,.str s.pass]],.cells 2 [[.str s.pass,.int .i64 why]]]);simp only [iF] at hb3' hb3'';simp [JU,-ak,-av,-ai,-AV.solid,e0,e1,e8,e9,e10,hlt,fxH,lxH,rx,c,hb3,hb3',hb3'',hof,htf];refine⟨by decide,?_⟩;obtain⟨g,hg⟩: ∃g:ae,g=[.cells 3 [[.str s.point,.int .i64 s.time,.str s.pass]],.cells 2 [[.str s.pass,.int .i64 why]]]:=⟨_,rfl⟩;have hK1:=hK.more g;have hB1:=aL hW.blk g;have hM1:=aL hW.mp g;have hT1:=hW.trips.more g;have hO1:=hW.out.more g;have hlo:=hW.low;have hap:bF Tryz.prog (H++g) [33,33] 2 (.own (H.length+1) 0 1) [bf ⟨s.pass,why⟩]:=by rw [hg];simp [bF,bf]
   rw [←hg];refine aO (lo:=lo) (n:=2) (es:=(w.out++gG why (l.take i)).map bf) (ys:=[bf ⟨s.pass,why⟩]) hO1 (by simp;omega) hap (by simp;omega) ?_;intro s1 H1 hs1 hg1 hn1;have hs1f:=hs1.rs.fix;have hb1:=hg1.keep b _ hB1 (qX hO1 hB1 (by decide));have hm1:=hg1.keep mb _ hM1 (jV hO1 hM1);have ht1:=gp hT1 hO1 (by decide) hg1;have hk1:=hK1.grow hO1 (by decide) hg1;have hb13:=at3 hb1;have hbg:=at3 hB1;simp only [iF] at hb13 hbg;simp [JU,-ak,-av,-ai,-AV.solid,e0,e1,e8,e9,e10,hs1f,hb13,hbg,ew];refine⟨i+1,by omega,by omega,by omega,⟨s1,?_⟩,hk1.set hb1 (by decide) hlo _⟩;rw [hsuc];refine⟨?_,get_put hb1 hm1 (nz hb1 hm1),iB ht1 hb1 (by decide) _,?_,hW.low,hW.lom⟩
   ·rw [zI hb13.2.1];simp [iF]
   ·have:=iB hs1 hb1 (by decide) (.cells 10 [iF t veh mb tr s1 op w.before w.last]);simpa [iF] using this
 ·obtain rfl:i=l.length:=by omega
  rw [List.take_length] at hW;simp [JU,e0,e1,e8,e9,e10];exact⟨⟨ou',hW⟩,hK⟩
set_option maxHeartbeats 1000000 in
theorem sP {t:aZ} {veh:Bytes} {mb:Nat} {m:List (Bytes×Int)} {b lo:Nat} {tr ou op:AV} {w:dh} (hw:u6 t veh mb m b lo h tr ou op w)(hop:Ls 3 lo h op (w.opn.map af))
  (hl:w.opn.length≤100000) (ho:w.out.length≤1000000):aa Tryz.prog gl 78 [.ptr b 0 0] h fun v h'=>v= .tup []∧(∃ou',u6 t veh mb m b lo h' tr ou' .nil (vH w))∧nL lo h h':=by
 refine aa.body Tryz.f78 _ mixed Tryz.func78 rfl rfl (by simp [Tryz.ntmps78]) ?_;have hof:=hop.rs.fix;have hb3:=at3 hw.blk;simp only [iF] at hb3;simp [-ai,-AV.solid,hb3,hof];refine ax.any (pR 11 w.opn op hw hop.rs hl ho hof) ?_;rintro v h' ⟨rfl,⟨ou',hW⟩,hK⟩;have hb4:=at3 hW.blk;simp only [iF] at hb4;have htf:=hW.trips.rs.fix;have huf:=hW.out.rs.fix;simp [-ai,-AV.solid,hb4,hof,htf,huf];refine⟨⟨ou',?_⟩,hK.set hW.blk (by decide) hW.low _⟩;refine⟨?_,get_put hW.blk hW.mp (nz hW.blk hW.mp),iB hW.trips hW.blk (by decide) _,iB hW.out hW.blk (by decide) _,hW.low,hW.lom⟩;rw [zI hb4.2.1];simp [iF,vH]
def uE:Nat→Option (List (Nat×Nat)):=fun id=>if id=2 then some [(3,11),(5,11),(6,11)] else none
set_option maxHeartbeats 4000000 in
theorem NP (s:bn) {t:aZ} {veh:Bytes} {mb:Nat} {m:List (Bytes×Int)} {b lo:Nat} {tr ou op:AV} {w:dh} (hw:u6 t veh mb m b lo h tr ou op w)(hop:Ls 3 lo h op (w.opn.map af))
  (hl:w.opn.length≤100000) (hs:0≤s.time∧s.time<68719476736) (hot: ∀x∈w.opn,0≤x.time∧x.time<68719476736) (hp:t.net.pts.length≤1000) (hlk:t.net.lks.length≤1000) (hsy:t.sys.length≤1000):
  aa Tryz.prog gl 110 [.ptr b 0 0,.agg (af s)] h fun v h'=>v= .int .i64 (uf t w.opn s)∧h'=h:=by
 refine aa.data (by simp) (aa.bodyL uE Tryz.f110 _ mixed Tryz.func110 rfl rfl (by simp [Tryz.ntmps110]) ?_);have hof:=hop.rs.fix;have hol:=hop.rs.len2;have kd:=fun (H:ae) (s:Bytes)=>iN (gl:=gl) (h:=H) t s hp hlk hsy;have sys:=fun (H:ae)=>gz (gl:=gl) (h:=H) t s.point hp hlk hsy;obtain⟨c1,hc1⟩: ∃c1:bU,c1= .cells 3 [[.str s.point,.int .i64 s.time,.str s.pass]]:=⟨_,rfl⟩;have hb3:=at3 hw.blk;have hb4:=at3 (aL hw.blk [.cells 3 [[.str s.point,.int .i64 s.time,.str s.pass]]]);simp only [iF] at hb3 hb4;simp [uE,-ai,-AV.solid,af,hb3,hb4,hof];refine⟨by decide,?_⟩;refine ax.pure _ (fun _=>kd _ s.point) ?_;have e1:iM t s.point=((dQ t s.point).getD sys0).name:=rfl;have e3:(dQ t s.point).isSome=(dQ t s.point).isSome:=rfl;unfold uf;generalize kindOf t s.point=k at*;generalize hy:(dQ t s.point).getD sys0=y at*;generalize hz:(dQ t s.point).isSome=z at*;simp [uE,-ai,-AV.solid,af,hb3,hb4,hof];refine⟨by decide,?_⟩;refine ax.pure _ (fun _=>sys _) ?_;obtain⟨g3,hg3⟩: ∃g3:ae,g3=[.cells 3 [[.str s.point,.int .i64 s.time,.str s.pass]],.cells 3 [[.str y.name,.bool y.closed,.int .i64 y.most]],.cells 3 [[.str [],.bool false,.int .i64 0]]]:=⟨_,rfl⟩;have lo3:=(hop.more g3).rs.len2;have hb5:=at3 (aL hw.blk g3);rw [hg3] at lo3 hb5;simp only [iF] at hb5
 cases hopn:w.opn with
 | nil=>
  rw [hopn] at lo3;simp at lo3;simp [uE,-ai,-AV.solid,af,hb3,hb4,hb5,hof,lo3];refine⟨ax.pure _ (fun _=>sys _) (by simp),?_⟩;by_cases k1:k=1
  ·simp [uE,k1]
  by_cases k2:k=2
  ·simp [uE,k1,k2]
  by_cases k3:k=3
  ·simp [uE,k1,k2,k3,GH];decide
  simp [uE,-ai,-AV.solid,af,hb3,hb4,hb5,hof,lo3,k1,k2,k3]
 | cons a r=>
  have sya:=fun (H:ae)=>gz (gl:=gl) (h:=H) t a.point hp hlk hsy;have e4:iM t a.point=((dQ t a.point).getD sys0).name:=rfl;have e5:wF t a.point=((dQ t a.point).getD sys0).most:=rfl;generalize hya:(dQ t a.point).getD sys0=ya at*;generalize (dQ t a.point).isSome=za at*;have hta:=hot a (by rw [hopn];simp);have wd:IntKind.i64.wrap (s.time - a.time)=s.time - a.time:=aD (by omega) (by omega);have hpos:(0:Int)<((r.length+1:Nat):Int):=by omega
  have hpos':(0:Int)<(r.length:Int)+1:=by omega
  obtain⟨g4,hg4⟩: ∃g4:ae,g4=[.cells 3 [[.str s.point,.int .i64 s.time,.str s.pass]],.cells 3 [[.str y.name,.bool y.closed,.int .i64 y.most]],.cells 3 [[.str ya.name,.bool ya.closed,.int .i64 ya.most]]]:=⟨_,rfl⟩;have lo4:=(hop.more g4).rs.len2;have hb6:=at3 (aL hw.blk g4);have r3:=Rs.ix Tryz.prog (hop.more g3).rs 0 (by omega) (y:=af a) (by simp [hopn]);have r4:=Rs.ix Tryz.prog (hop.more g4).rs 0 (by omega) (y:=af a) (by simp [hopn]);rw [hg3] at r3;rw [hg4] at r4 lo4 hb6;rw [hopn] at lo3 lo4;simp only [iF] at hb6;simp only [af] at r3 r4;simp at lo3 lo4;simp [uE,-ai,-AV.solid,af,hb3,hb4,hb5,hof,lo3,r3,hpos'];refine⟨ax.pure _ (fun _=>sys _) (by simp),?_⟩;refine⟨⟨by decide,?_⟩,fun hc=>absurd hc (by omega)⟩;refine ax.pure _ (fun _=>sya _) ?_;simp [uE,-ai,-AV.solid,af,hb3,hb4,hb5,hb6,hof,lo3,lo4,r3,r4,hpos'];by_cases k1:k=1
  ·simp [k1]
  by_cases k2:k=2
  ·simp [k1,k2]
  by_cases k3:k=3
  ·by_cases q1:ya.name=y.name
   ·by_cases q2:s.time - a.time≤ya.most
    ·simp [uE,-ai,-AV.solid,af,hb6,hof,lo4,r4,k1,k2,k3,GH,e1,e4,e5,q1,q2,wd];decide
    ·simp [uE,-ai,-AV.solid,af,hb6,hof,lo4,r4,k1,k2,k3,GH,e1,e4,e5,q1,q2,wd];decide
   ·simp [uE,-ai,-AV.solid,af,hb6,hof,lo4,r4,k1,k2,k3,GH,e1,e4,e5,q1,wd];decide
  by_cases q1:ya.name=y.name
  ·simp [uE,-ai,-AV.solid,af,hb6,hof,lo4,r4,k1,k2,k3,Go.Toll.sameB,e1,e4,q1,hpos']
  ·cases z <;> simp [uE,-ai,-AV.solid,af,hb6,hof,lo4,r4,k1,k2,k3,Go.Toll.sameB,e1,e4,q1,hpos']
end Go.Proofs.YtkpioblbeiaefaaGreat
end
section
namespace Go.Toll
open Go Go.Abs
theorem Dw (why:Int)(l:List bn):(gG why l).map (·.id)=aQ l:=by simp [gG,aQ]
theorem sD (a b:List bn):aQ (a++b)=aQ a++aQ b:=by simp [aQ]
def oU (w:dh):List Bytes:=w.trips.flatMap (fun x=>aQ x.stops)++w.out.map (·.id)
section
variable {t : aZ} {veh : Bytes} {cls : Bytes → Int}
theorem LP (a:Bytes)(w:dh)(s:bn):(oU (qw t veh cls w s)).count a+(aQ (qw t veh cls w s).opn).count a=(oU w).count a+(aQ w.opn).count a+(aQ [s]).count a:=by
 have hx: ∀l before,(p9 t veh cls l before).stops=l:=fun _ _=>rfl;have hn:aQ []=[]:=rfl;unfold qw;split <;> simp only [oU,List.flatMap_append,List.flatMap_cons,List.flatMap_nil,List.append_nil,List.map_append,List.count_append,Dw,hx,sD,hn,List.count_nil] <;> omega
theorem step_count (a:Bytes)(w:dh)(s:bn):(oU (dE t veh cls w s)).count a+(aQ (dE t veh cls w s).opn).count a=(oU w).count a+(aQ w.opn).count a+(aQ [s]).count a:=by
 rw [←LP (t:=t) (veh:=veh) (cls:=cls) a w s];unfold dE;split <;> rfl
theorem Ey (a:Bytes): ∀(l:List bn) (w:dh),(oU (l.foldl (dE t veh cls) w)).count a+(aQ (l.foldl (dE t veh cls) w).opn).count a=(oU w).count a+(aQ w.opn).count a+(aQ l).count a
 | [],w=>by simp [aQ]
 | s::l,w=>by
  rw [List.foldl_cons,Ey a l,step_count];have:aQ (s::l)=aQ [s]++aQ l:=sD [s] l;rw [this,List.count_append];omega
theorem Jt (a:Bytes)(w:dh):(oU (vH w)).count a=(oU w).count a+(aQ w.opn).count a:=by
 simp only [vH,oU,List.map_append,List.count_append,Dw];omega
theorem KU (a:Bytes)(w:dh)(l:List bn):(oU (NQ t veh cls w l)).count a=(oU w).count a+(aQ w.opn).count a+(aQ l).count a:=by
 rw [NQ,Jt,Ey]
end
theorem Hu (l:List Int): ∀k:Nat,0≤pq l k∧pq l k≤k
 | 0=>by simp [pq]
 | k+1=>by
  have:=Hu l k;rw [pq];split <;> omega
section
variable {t : aZ} {veh : Bytes} {cls : Bytes → Int}
end
end Go.Toll
end
section
namespace Go.Proofs.YtkpioblbeiaefaaGreat
open Go Go.Abs Go.Toll
variable {gl : aM} {h : ae}
theorem FZ (l:List bn): ∀e∈l.map af,e.length=3:=fun e he=>by
 obtain⟨m,_,rfl⟩:=List.mem_map.1 he;rfl
theorem Nv (l:List bn): ∀e∈l.map af,∀y∈e,y.Data:=fun e he y hy=>by
 obtain⟨m,_,rfl⟩:=List.mem_map.1 he;simp [af] at hy;rcases hy with rfl | rfl | rfl <;> simp
theorem BM (l:List bn)(k:Nat)(hk:h[k]? =some (.cells 3 (l.map af)))(hl:l.length≤1000000):aa Tryz.prog gl 143 [.own k 0 l.length] h fun v h'=>v= .ro (l.map af)∧h'=h:=by
 refine aa.fresh' (aa.body Tryz.f143 _ mixed Tryz.func143 rfl rfl (by simp [Tryz.ntmps143]) ?_);have hr:Rs 3 h (.own k 0 l.length) (l.map af):=by simpa using Rs.own hk (FZ l)
 simp [-ak,-av];refine aO (lo:=h.length) (n:=3) (es:=[]) (ys:=l.map af) (Ls.own (by simp) (by omega) rfl (by simp)) (by simp) (vg (hr.append _) (by simp) (by simp) (by simp)) (by simp;omega) ?_;intro s1 H1 hs1 hg1 hn1;have hs1f:=hs1.rs.fix;simp [-ai,-AV.solid,hs1f];exact⟨hg1.base h (by omega) ⟨_,rfl⟩,hs1.frz (Nat.le_refl _) (Nv _)⟩
theorem Oo (n:Int):aa Tryz.prog gl 172 [.int .i64 n] h fun v h'=>v= .bool (decide (1≤n∧n≤9))∧h'=h:=by
 refine aa.data (.bool _) (aa.body Tryz.f172 _ mixed Tryz.func172 rfl rfl (by simp [Tryz.ntmps172]) ?_);by_cases c:1≤n
 ·simp [c]
 ·simp [c]
def kR (l:List Int)(c:Nat):Int:=if c=0 then 0 else (qg l c:Int)
def jZ (l:List Int):List AV:=(List.range 10).map fun c=> .int .i64 (kR l c)
theorem oC (l:List Int) {c:Nat} (h:c<10):(jZ l)[c]? =some (.int .i64 (kR l c)):=by simp [jZ,h]
theorem rG (l:List Int):(jZ l).length=10:=by simp [jZ]
theorem wU (l:List Int)(n c:Int):qg (l++[n]) c=if n=c then qg l c+1 else qg l c:=by
 unfold qg;rw [List.filter_append,List.length_append];by_cases e:n=c <;> simp [e]
theorem PK (l:List Int) {n:Nat} (h0:1≤n)(h1:n<10):(jZ l).set n (.int .i64 (kR l n+1))=jZ (l++[(n:Int)]):=by
 refine List.ext_getElem? fun c=> ?_;rw [List.getElem?_set];by_cases e:n=c
 ·subst e;rw [if_pos rfl,if_pos (by rw [rG];exact h1),oC _ h1];unfold kR;rw [if_neg (by omega),if_neg (by omega),wU,if_pos rfl]
  push_cast
  rfl
 ·rw [if_neg e];rcases zN c 10 with q | q
  ·rw [oC _ q,oC _ q];unfold kR;split
   ·rfl
   ·rw [wU,if_neg (by omega)]
  ·rw [List.getElem?_eq_none (by rw [rG];exact q),List.getElem?_eq_none (by rw [rG];exact q)]
theorem Ni (l:List Int) {n:Int} (h: ¬(1≤n∧n≤9)):jZ (l++[n])=jZ l:=by
 unfold jZ;refine List.map_congr_left fun c hc=> ?_;have hc':=List.mem_range.1 hc;unfold kR;split
 ·rfl
 ·rw [wU,if_neg (by omega)]
theorem Qv (l:List Int)(c:Int):qg l c≤l.length:=List.length_filter_le _ _
def encI' (n:Int):List AV:=[.int .i64 n]
set_option maxHeartbeats 2000000 in
theorem zT (l:List Int)(x:AV)(hx:Rs 1 h x (l.map encI'))(hl:l.length≤100000):aa Tryz.prog gl 144 [x] h fun v h'=>v= .int .i64 (MO l)∧h'=h:=by
 refine aa.data (by simp) (aa.body Tryz.f144 _ mixed Tryz.func144 rfl rfl (by simp [Tryz.ntmps144]) ?_);have fx:=hx.fix;have lx:=(hx.append [.cells 10 [jZ []]]).len2;have h0:jZ []=[.int .i64 0,.int .i64 0,.int .i64 0,.int .i64 0,.int .i64 0,.int .i64 0,.int .i64 0,.int .i64 0,.int .i64 0,.int .i64 0]:=rfl;rw [h0] at lx;simp [fx,lx];refine aT.up mixed l.length (fun i fr H=>fr 3= .ptr h.length 0 0∧fr 9=x∧fr 10= .int .i64 l.length∧fr 11= .int .i64 i∧H=h++[.cells 10 [jZ (l.take i)]]) 0 (by omega) ⟨by simp,by simp,by simp,by simp,by simp [h0]⟩ ?_;rintro i fr H hi ⟨e3,e9,e10,e11,rfl⟩;have hxH:=hx.append [.cells 10 [jZ (l.take i)]];have fxH:=hxH.fix;have lxH:=hxH.len2;rcases zN i l.length with hlt | hge
 ·obtain⟨n,hn,hn'⟩:=aN hlt;have ew:=aC (i:=i) (by omega);have rx:=Rs.ix Tryz.prog hxH i (by omega) (y:=encI' n) (by simp [hn]);simp only [encI'] at rx;have htk:l.take (i+1)=l.take i++[n]:=by rw [zM,hn];rfl
  simp [e3,e9,e10,e11,hlt,fxH,lxH,rx];refine ax.pure _ (fun _=>Oo n) ?_;by_cases c:1≤n∧n≤9
  ·obtain⟨k,rfl⟩: ∃k:Nat,n=k:=⟨n.toNat,by omega⟩;have hk1:1≤k:=by omega
   have hk9:k<10:=by omega
   have hk9':k≤9:=by omega
   have hg:=oC (l.take i) hk9;have hg':=(zA.1 hg).2;have hrl:=rG (l.take i);have hcn:=Qv (l.take i) k;have htl:=List.length_take_le i l;have hc0:kR (l.take i) k=(qg (l.take i) k:Int):=by unfold kR;rw [if_neg (by omega)]
   have w1:IntKind.i64.wrap (kR (l.take i) k+1)=kR (l.take i) k+1:=aD (by omega) (by omega);have hset:=PK (l.take i) hk1 hk9;have hset':(jZ (l.take i)).take k++AV.int .i64 (kR (l.take i) k+1)::(jZ (l.take i)).drop (k+1)=jZ (l.take i++[(k:Int)]):=by
    rw [←hset,List.set_eq_take_append_cons_drop,if_pos (by rw [hrl];exact hk9)]
   simp [e3,e9,e10,e11,hk1,hk9,hk9',hg,hg',hrl,w1,hset,ew];exact⟨fun _ _=>⟨by omega,i+1,by omega,by omega,by omega,by rw [htk,←hset']⟩,fun hc=>absurd (hc (by omega)) (by omega)⟩
  ·have hsk:=Ni (l.take i) c;simp [e3,e9,e10,e11,c,ew];exact⟨i+1,by omega,by omega,by omega,by rw [htk,hsk]⟩
 ·obtain rfl:i=l.length:=by omega
  rw [List.take_length];have hrl:=rG l;have ht10:(jZ l).take 10=jZ l:=zG (by omega);simp [e3,e9,e10,e11,hrl,ht10];refine aT.up mixed 10 (fun i fr H=>fr 3= .ptr h.length 0 0∧fr 6= .int .i64 (pq l (i - 1))∧fr 23= .agg (jZ l)∧fr 24= .int .i64 i∧H=h++[.cells 10 [jZ l]]) 0 (by omega) ⟨by simp [e3],by simp [pq],by simp,by simp,rfl⟩ ?_;clear e3 e9 e10 e11;rintro i fr H hi ⟨e3,e6,e23,e24,rfl⟩;rcases zN i 10 with hlt | hge
  ·have ew:=aC (i:=i) (by omega);have hq:(i:Int)<10:=by omega
   have hg:=oC l hlt;have hg': ∀hh:i<(jZ l).length,(jZ l)[i]'hh= .int .i64 (kR l i):=fun _=>(zA.1 hg).2
   cases i with
   | zero=>
    have hg0:(jZ l)[0]? =some (.int .i64 (kR l 0)):=hg;have hg0': ∀hh:0<(jZ l).length,(jZ l)[0]'hh= .int .i64 (kR l 0):=hg';simp [e3,e6,e23,e24,hg0,hg0',hrl];exact⟨1,by omega,by omega,by simp [pq],by decide⟩
   | succ j=>
    have hr:=Hu l j;obtain⟨b,hb⟩: ∃b:Nat,pq l j=b:=⟨(pq l j).toNat,by omega⟩;have hb10:b<10:=by omega
    have hb10q:(b:Int)<10:=by omega
    have hgb:=oC l hb10;have hgb': ∀hh:b<(jZ l).length,(jZ l)[b]'hh= .int .i64 (kR l b):=fun _=>(zA.1 hgb).2;have hc1:kR l (j+1)=(qg l ((j+1:Nat):Int):Int):=by unfold kR;rw [if_neg (by omega)]
    have hjp:(0:Int)<((j+1:Nat):Int):=by omega
    have hm:pq l (j+1)=if 0<qg l ((j+1:Nat):Int)∧(pq l j=0∨qg l (pq l j)<qg l ((j+1:Nat):Int)) then ((j+1:Nat):Int) else pq l j:=rfl
    have e6':fr 6= .int .i64 b:=by rw [e6,Nat.add_sub_cancel,hb]
    rw [hb] at hm;have fin: ∀v:Int,pq l (j+1)=v→ ∃k',j+1<k'∧k'≤10∧v=pq l (k' - 1)∧((j+1+1:Nat):Int)=(k':Int):=fun v hv=>⟨j+1+1,by omega,by omega,hv.symm,rfl⟩;by_cases c1:0<qg l ((j+1:Nat):Int)
    ·have c1':(0:Int)<kR l (j+1):=by rw [hc1];omega
     by_cases c2:b=0
     ·subst c2;rw [if_pos ⟨c1,.inl rfl⟩] at hm;simp [-Int.natCast_add,e3,e6',e23,e24,hlt,hq,hg,hg',hrl,hjp,c1',ew];simpa using fin _ hm
     ·have c2': ¬(b:Int)=0:=by omega
      have hcb:kR l b=(qg l (b:Int):Int):=by unfold kR;rw [if_neg c2]
      by_cases c3:qg l (b:Int)<qg l ((j+1:Nat):Int)
      ·rw [if_pos ⟨c1,.inr c3⟩] at hm;have c3':kR l b<kR l (j+1):=by rw [hcb,hc1];omega
       simp [-Int.natCast_add,e3,e6',e23,e24,hlt,hq,hg,hg',hgb,hgb',hb10,hb10q,hrl,hjp,c1',c2,c2',c3',ew];simpa using fin _ hm
      ·rw [if_neg (by rintro⟨_,q | q⟩;exact c2' q;exact c3 q)] at hm;have c3': ¬kR l b<kR l (j+1):=by rw [hcb,hc1];omega
       simp [-Int.natCast_add,e3,e6',e23,e24,hlt,hq,hg,hg',hgb,hgb',hb10,hb10q,hrl,hjp,c1',c2,c2',c3',ew];simpa using fin _ hm
    ·have c1': ¬(0:Int)<kR l (j+1):=by rw [hc1];omega
     rw [if_neg (by rintro⟨q,_⟩;exact c1 q)] at hm;simp [-Int.natCast_add,e3,e6',e23,e24,hlt,hq,hg,hg',hrl,hjp,c1',ew];simpa using fin _ hm
  ·obtain rfl:i=10:=by omega
   simp [e3,e6,e23,e24];rfl
end Go.Proofs.YtkpioblbeiaefaaGreat
end
