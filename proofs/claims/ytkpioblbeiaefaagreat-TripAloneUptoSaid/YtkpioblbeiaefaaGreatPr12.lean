/- Part 12 of the lemmas below the statements of this seat: TollChain, TollWalk, TollWalkH, TripC. -/
import Derived.Test.YtkpioblbeiaefaaGreatPr11
set_option linter.unusedSectionVars false
set_option linter.unusedVariables false
set_option linter.unusedSimpArgs false
set_option linter.unnecessarySimpa false
set_option maxRecDepth 100000
section
namespace Go.Toll
open Go Go.Abs
section
variable (G : Nat → Nat → Bool) (n : Nat)
def kK (i:Nat):List Nat:=(List.range n).filter (G i)
def jb (i:Nat)(S:Nat→Nat)(l:List Nat)(m:Nat):Nat:=l.foldl (fun m j=>if i<j then max m (S j+1) else m) m
def zo:Nat→(Nat→Nat)
 | 0=>fun _=>0
 | k+1=>fun j=>if j=n - 1 - k then jb (n - 1 - k) (zo k) (kK G n (n - 1 - k)) 1 else zo k j
def lV (j:Nat):Nat:=zo G n n j
theorem zg {i:Nat} {S S':Nat→Nat}: ∀ {l:List Nat} {m:Nat},(∀j∈l,i<j→S j=S' j)→jb i S l m=jb i S' l m
 | [],_,_=>rfl
 | j::r,m,h=>by
  have e:(if i<j then max m (S j+1) else m)=if i<j then max m (S' j+1) else m:=by
   by_cases c:i<j
   ·rw [if_pos c,if_pos c,h j (by simp) c]
   ·rw [if_neg c,if_neg c]
  show jb i S r (if i<j then max m (S j+1) else m)=jb i S' r (if i<j then max m (S' j+1) else m);rw [e];exact zg fun k hk=>h k (by simp [hk])
theorem BM {i:Nat} {S:Nat→Nat}: ∀ {l:List Nat} {m:Nat},m≤jb i S l m
 | [],_=>Nat.le_refl _
 | j::r,m=>by
  have:m≤if i<j then max m (S j+1) else m:=by split <;> omega
  exact Nat.le_trans this BM
theorem I6 {i:Nat} {S:Nat→Nat} {j:Nat} (hij:i<j): ∀ {l:List Nat} {m:Nat},j∈l→S j+1≤jb i S l m
 | [],_,h=>by cases h
 | k::r,m,h=>by
  rcases List.mem_cons.1 h with rfl | h
  ·have:S j+1≤if i<j then max m (S j+1) else m:=by rw [if_pos hij];omega
   exact Nat.le_trans this BM
  ·exact I6 hij (l:=r) h
theorem BN {i:Nat} {S:Nat→Nat}: ∀ {l:List Nat} {m:Nat},jb i S l m=m∨ ∃j∈l,i<j∧jb i S l m=S j+1
 | [],_=> .inl rfl
 | k::r,m=>by
  have e:jb i S (k::r) m=jb i S r (if i<k then max m (S k+1) else m):=rfl;rcases BN (i:=i) (S:=S) (l:=r) (m:=if i<k then max m (S k+1) else m) with h | ⟨j,h1,h2,h3⟩
  ·by_cases c:i<k
   ·rw [if_pos c] at h e;rcases Nat.le_total m (S k+1) with q | q
    ·exact .inr ⟨k,by simp,c,by rw [e,h];omega⟩
    ·exact .inl (by rw [e,h];omega)
   ·rw [if_neg c] at h e;exact .inl (by rw [e,h])
  ·exact .inr ⟨j,by simp [h1],h2,by rw [e,h3]⟩
variable {G n}
theorem nE {i j:Nat}:j∈kK G n i↔j<n∧G i j=true:=by rw [kK,List.mem_filter,List.mem_range]
theorem I5 (i:Nat):(kK G n i).length≤n:=by
 have:=List.length_filter_le (G i) (List.range n);rw [List.length_range] at this;exact this
theorem Ch {j k:Nat} (h:n≤j+k): ∀d:Nat,k+d≤n→zo G n (k+d) j=zo G n k j
 | 0,_=>rfl
 | d+1,hd=>by
  have:j≠n - 1 - (k+d):=by omega
  show (if j=n - 1 - (k+d) then _ else zo G n (k+d) j)=_;rw [if_neg this];exact Ch h d (by omega)
theorem Fs {j k:Nat} (h:n≤j+k)(hk:k≤n):zo G n k j=lV G n j:=by
 have:=Ch (G:=G) h (n - k) (by omega);rw [show k+(n - k)=n by omega] at this;exact this.symm
theorem Cg {i:Nat} (h:i<n):lV G n i=jb i (lV G n) (kK G n i) 1:=by
 have e1:=Fs (G:=G) (n:=n) (j:=i) (k:=n - 1 - i+1) (by omega) (by omega);rw [←e1];have e2:n - 1 - (n - 1 - i)=i:=by omega
 show (if i=n - 1 - (n - 1 - i) then jb (n - 1 - (n - 1 - i)) (zo G n (n - 1 - i)) (kK G n (n - 1 - (n - 1 - i))) 1 else _)=_;rw [e2,if_pos rfl];exact zg fun j hj hij=>Fs (by omega) (by omega)
theorem Qt {k j:Nat} (h:k<j)(hj:j<n)(hg:G k j=true):lV G n j+1≤lV G n k:=by
 rw [Cg (by omega:k<n)];exact I6 h (nE.2 ⟨hj,hg⟩)
theorem M9 {k:Nat} (h:k<n):1≤lV G n k:=by rw [Cg h];exact BM
theorem Qs {k:Nat} (h:k<n):lV G n k=1∨ ∃j,k<j∧j<n∧G k j=true∧lV G n k=lV G n j+1:=by
 rw [Cg h];rcases BN (i:=k) (S:=lV G n) (l:=kK G n k) (m:=1) with q | ⟨j,h1,h2,h3⟩
 ·exact .inl q
 ·exact .inr ⟨j,h2,(nE.1 h1).1,(nE.1 h1).2,h3⟩
theorem Qr: ∀(d k:Nat),n - k≤d→k<n→lV G n k≤n - k
 | 0,k,h,hk=>by omega
 | d+1,k,h,hk=>by
  rcases Qs (G:=G) hk with q | ⟨j,h1,h2,h3,h4⟩
  ·omega
  ·have:=Qr d j (by omega) h2;omega
theorem Ay {k:Nat} (hk:k<n):lV G n k≤n:=by have:=Qr (G:=G) (n - k) k (Nat.le_refl _) hk;omega
def qB (G:Nat→Nat→Bool)(n c:Nat):Nat:=(((List.range n).drop c).map (lV G n)).foldr max 0
theorem vX {c:Nat} (h:c<n):(List.range n).drop c=c::(List.range n).drop (c+1):=by
 rw [List.drop_eq_getElem_cons (by simpa using h)];simp
theorem uj {c:Nat} (h:c<n):qB G n c=max (lV G n c) (qB G n (c+1)):=by
 rw [qB,vX h];rfl
theorem Cr:qB G n n=0:=by rw [qB,zH (by simp)];rfl
theorem Nf : ∀ (d c : Nat), n - c = d → c ≤ n → qB G n c ≤ n
  | 0, c, h, hc => by obtain rfl : c = n := by omega
                      rw [Cr]; omega
  | d + 1, c, h, hc => by
    rw [uj (by omega)]
    have h1 := Ay (G := G) (n := n) (k := c) (by omega)
    have h2 := Nf d (c + 1) (by omega) (by omega)
    omega
theorem G9: ∀(d c:Nat),n - c=d→ ∀j,c≤j→j<n→lV G n j≤qB G n c
 | 0,c,h,j,h1,h2=>by omega
 | d+1,c,h,j,h1,h2=>by
  rw [uj (by omega)];rcases Nat.eq_or_lt_of_le h1 with rfl | h1
  ·omega
  ·have:=G9 d (c+1) (by omega) j h1 h2;omega
theorem Ng : ∀ (d c : Nat), n - c = d → c ≤ n → qB G n c = 0 ∨ ∃ j, c ≤ j ∧ j < n ∧ lV G n j = qB G n c
  | 0, c, h, hc => by obtain rfl : c = n := by omega
                      exact .inl Cr
  | d + 1, c, h, hc => by
    rw [uj (by omega)]
    have hp := M9 (G := G) (n := n) (k := c) (by omega)
    rcases Nat.le_total (qB G n (c + 1)) (lV G n c) with q | q
    · exact .inr ⟨c, by omega, by omega, by omega⟩
    · rcases Ng d (c + 1) (by omega) (by omega) with e | ⟨j, h1, h2, h3⟩
      · omega
      · exact .inr ⟨j, by omega, h2, by omega⟩
def PQ (G:Nat→Nat→Bool)(last:Option Nat)(i:Nat):Bool:=last.all fun k=>G k i
def pJ (G:Nat→Nat→Bool)(n:Nat):List Nat→Option Nat→Nat→List Nat
 | [],_,_=>[]
 | i::r,last,left=>if left=0 then [] else if lV G n i=left∧PQ G last i=true then i::pJ G n r (some i) (left - 1) else pJ G n r last left
def sQ (G:Nat→Nat→Bool)(n:Nat):List Nat:=pJ G n (List.range n) none (qB G n 0)
theorem CS {l:List Nat} {last:Option Nat}:pJ G n l last 0=[]:=by cases l <;> simp [pJ]
def MJ (G:Nat→Nat→Bool)(n:Nat):Option Nat→List Nat→Prop
 | _,[]=>True
 | last,i::r=>i<n∧(∀k,last=some k→k<i∧G k i=true)∧MJ G n (some i) r
theorem MJ.len: ∀ {r:List Nat} {i:Nat} {last:Option Nat},MJ G n last (i::r)→r.length+1≤lV G n i
 | [],i,_,h=>M9 h.1
 | j::r,i,_,h=>by
  obtain⟨h1,_,h3⟩:=h;have h4:=MJ.len h3;obtain⟨h5,h6,_⟩:=h3;obtain⟨h7,h8⟩:=h6 i rfl;have:=Qt h7 h5 h8;simp only [List.length_cons];omega
def RY (G:Nat→Nat→Bool)(n c:Nat)(last:Option Nat)(left:Nat):Prop:=left=0∨ ∃j,c≤j∧j<n∧lV G n j=left∧PQ G last j=true
theorem RY.next {c:Nat} {last:Option Nat} {left:Nat} (h:RY G n c last left)(hn: ¬(lV G n c=left∧PQ G last c=true))(hl:left≠0):RY G n (c+1) last left:=by
 rcases h with h | ⟨j,h1,h2,h3⟩
 ·exact absurd h hl
 ·rcases Nat.eq_or_lt_of_le h1 with rfl | h1
  ·exact absurd h3 hn
  ·exact .inr ⟨j,h1,h2,h3⟩
theorem RY.pick {c left:Nat} (hc:c<n)(h:lV G n c=left):RY G n (c+1) (some c) (left - 1):=by
 rcases Qs (G:=G) hc with q | ⟨j,h1,h2,h3,h4⟩
 ·exact .inl (by omega)
 ·exact .inr ⟨j,h1,h2,by omega,by simpa [PQ] using h3⟩
theorem RY.start:RY G n 0 none (qB G n 0):=by
 rcases Ng (G:=G) n 0 rfl (by omega) with h | ⟨j,h1,h2,h3⟩
 ·exact .inl h
 ·exact .inr ⟨j,h1,h2,h3,rfl⟩
def lexB:List Nat→List Nat→Bool
 | a::r,b::q=>if a≠b then decide (a<b) else lexB r q
 | _,_=>false
theorem vW: ∀(d c:Nat) (last:Option Nat) (left:Nat),n - c=d→(∀k,last=some k→k<c)→RY G n c last left→
  MJ G n last (pJ G n ((List.range n).drop c) last left)∧(∀j∈pJ G n ((List.range n).drop c) last left,c≤j∧j<n)∧(pJ G n ((List.range n).drop c) last left).length=left∧
  ((∀j,c≤j→j<n→PQ G last j=true→lV G n j≤left)→ ∀J,MJ G n last J→(∀j,J.head? =some j→c≤j)→J.length=left→lexB J (pJ G n ((List.range n).drop c) last left)=false)
 | 0,c,last,left,hd,hl,hE=>by
  rcases hE with rfl | ⟨j,h1,h2,_⟩
  ·rw [CS];exact⟨trivial,by simp,rfl,fun _ J _ _ hJ=>by rw [List.length_eq_zero_iff.1 hJ];rfl⟩
  ·omega
 | d+1,c,last,left,hd,hl,hE=>by
  have hc:c<n:=by omega
  rw [vX hc,pJ];by_cases h0:left=0
  ·rw [if_pos h0];subst h0;exact⟨trivial,by simp,rfl,fun _ J _ _ hJ=>by rw [List.length_eq_zero_iff.1 hJ];rfl⟩
  rw [if_neg h0];by_cases hp:lV G n c=left∧PQ G last c=true
  ·rw [if_pos hp];obtain⟨q1,q2,q3,q4⟩:=vW d (c+1) (some c) (left - 1) (by omega) (fun k e=>by cases e;omega) (RY.pick hc hp.1);refine⟨⟨hc,fun k e=>⟨hl k e,?_⟩,q1⟩,?_,by simp [q3];omega,?_⟩
   ·have:=hp.2;rw [e] at this;simpa [PQ] using this
   ·intro j hj;rcases List.mem_cons.1 hj with rfl | hj
    ·omega
    ·have:=q2 j hj;omega
   ·intro hb J hJ hh hlen
    cases J with
    | nil=>rfl
    | cons j r=>
     have hj:=hh j rfl;rw [lexB];by_cases e:j=c
     ·subst e;rw [if_neg (by simp)];obtain⟨_,_,h3⟩:=hJ;refine q4 (fun k h1 h2 h4=> ?_) r h3 ?_ (by simp at hlen;omega)
      ·have:=Qt (G:=G) (k:=j) (j:=k) (by omega) h2 (by simpa [PQ] using h4);omega
      ·intro k hk
       cases r with
       | nil=>simp at hk
       | cons k' r=>
        simp at hk;subst hk;exact (h3.2.1 j rfl).1
     ·rw [if_pos e];simp;omega
  ·rw [if_neg hp];obtain⟨q1,q2,q3,q4⟩:=vW d (c+1) last left (by omega) (fun k e=>by have:=hl k e;omega) (hE.next hp h0);refine⟨q1,fun j hj=>by have:=q2 j hj;omega,q3,?_⟩;intro hb J hJ hh hlen;refine q4 (fun j h1 h2 h3=>hb j (by omega) h2 h3) J hJ ?_ hlen;intro j hj;have h1:=hh j hj;rcases Nat.eq_or_lt_of_le h1 with rfl | h1
   ·exfalso
    cases J with
    | nil=>simp at hj
    | cons k r=>
     simp at hj;subst hj;have h5:=MJ.len hJ;have h6:PQ G last k=true:=by
      cases last with
      | none=>rfl
      | some m=>simpa [PQ] using (hJ.2.1 m rfl).2
     have h7:=hb k (by omega) hc h6;simp at hlen;exact hp ⟨by omega,h6⟩
   ·exact h1
theorem pq:MJ G n none (sQ G n)∧(∀j∈sQ G n,j<n)∧(sQ G n).length=qB G n 0∧ ∀J,MJ G n none J→J.length≤(sQ G n).length∧(J.length=(sQ G n).length→lexB J (sQ G n)=false):=by
 obtain⟨q1,q2,q3,q4⟩:=vW (G:=G) n 0 none (qB G n 0) rfl (fun k e=>by cases e) RY.start;simp only [List.drop_zero] at q1 q2 q3 q4;refine⟨q1,fun j hj=>(q2 j hj).2,q3,fun J hJ=>⟨?_,fun e=> ?_⟩⟩
 ·rw [sQ,q3]
  cases J with
  | nil=>simp
  | cons j r=>
   have h1:=hJ.len;have h2:=G9 (G:=G) (n:=n) n 0 rfl j (by omega) hJ.1;simp;omega
 ·rw [sQ,q3] at e;exact q4 (fun j h1 h2 h3=>G9 (G:=G) n 0 rfl j (by omega) h2) J hJ (fun _ _=>by omega) e
theorem MJ.asc: ∀ {l:List Nat} {last:Option Nat},MJ G n last l→l.Pairwise (· < ·)∧ ∀k,last=some k→ ∀j∈l,k<j
 | [],_,_=>⟨.nil,by simp⟩
 | i::r,last,h=>by
  obtain⟨h1,h2,h3⟩:=h;obtain⟨q1,q2⟩:=MJ.asc h3;refine⟨List.pairwise_cons.2 ⟨fun j hj=>q2 i rfl j hj,q1⟩,fun k e j hj=> ?_⟩;have:=(h2 k e).1;rcases List.mem_cons.1 hj with rfl | hj
  ·exact this
  ·have:=q2 i rfl j hj;omega
where asc_len: ∀(l:List Nat),l.Pairwise (· < ·)→ ∀ {c n:Nat},(∀j∈l,c≤j∧j<n)→l.length≤n - c
 | [],_,_,_,_=>by simp
 | i::r,h,c,n,hr=>by
  obtain⟨h1,h2⟩:=List.pairwise_cons.1 h;have:=asc_len r h2 (c:=i+1) (n:=n) fun j hj=>⟨h1 j hj,(hr j (by simp [hj])).2⟩;have:=hr i (by simp);simp;omega
end
def bQ (n:Nat):List AV:=[.int .i64 n]
@[simp] theorem VV (n:Nat):(bQ n).length=1:=rfl
@[simp] theorem UV (n:Nat):(bQ n).tail=[]:=rfl
def fe (v:bn)(a b:ay):Bool:=sD v a.point b.point a.time b.time
def gL (v:bn)(l:List ay)(i j:Nat):Bool:=match l[i]?,l[j]? with
 | some a,some b=>fe v a b
 | _,_=>false
theorem TN {v:bn} {l:List ay} {i j:Nat} {a b:ay} (ha:l[i]? =some a)(hb:l[j]? =some b):gL v l i j=fe v a b:=by rw [gL,ha,hb]
def Aa (G:Nat→Nat→Bool)(i j:Nat):List Nat:=(List.range j).filter (G i)
theorem Oe (G:Nat→Nat→Bool)(i j:Nat):Aa G i (j+1)=if G i j=true then Aa G i j++[j] else Aa G i j:=by
 rw [Aa,List.range_succ,List.filter_append,Aa];by_cases c:G i j=true
 ·rw [if_pos c,List.filter_cons_of_pos c];rfl
 ·rw [if_neg c,List.filter_cons_of_neg c];simp
theorem Qj (G:Nat→Nat→Bool)(i j:Nat):(Aa G i j).length≤j:=by
 have:=List.length_filter_le (G i) (List.range j);rwa [List.length_range] at this
def qY (v:bn):List ay→Bool
 | a::b::r=>fe v a b && qY v (b::r)
 | _=>true
theorem N7 {v:bn} {l:List ay} {i:Nat} {a b:ay} (ha:l[i]? =some a)(hb:l[i+1]? =some b):qY v (l.drop i)=(fe v a b && qY v (l.drop (i+1))):=by
 rw [bq ha,bq hb,qY]
theorem P8 {v:bn} {l:List ay} {i:Nat} (h:l.length≤i+1):qY v (l.drop i)=true:=by
 rcases hd:l.drop i with _ | ⟨a,_ | ⟨b,r⟩⟩
 ·rfl
 ·rfl
 ·have:(l.drop i).length=r.length+2:=by rw [hd];rfl
  rw [List.length_drop] at this;omega
structure kD where
 id:Bytes
 why:Int
deriving DecidableEq
def bf (x:kD):List AV:=[.str x.id,.int .i64 x.why]
@[simp] theorem UU (x:kD):(bf x).length=2:=rfl
def yn (I:List Nat)(l:List ay)(i:Nat):List ay:=((List.range i).filter fun j=>decide (j∈I)).filterMap fun j=>l[j]?
def lH (I:List Nat)(l:List ay)(i:Nat):List kD:=((List.range i).filter fun j=> !decide (j∈I)).filterMap fun j=>(l[j]?).map fun p=>⟨p.id,9⟩
theorem BX {I:List Nat} {l:List ay} {i:Nat} {p:ay} (h:l[i]? =some p):yn I l (i+1)=if i∈I then yn I l i++[p] else yn I l i:=by
 rw [yn,List.range_succ,List.filter_append,List.filterMap_append,←yn];by_cases c:i∈I
 ·rw [if_pos c,List.filter_cons_of_pos (by simpa using c)];simp [h]
 ·rw [if_neg c,List.filter_cons_of_neg (by simpa using c)];simp
theorem FB {I:List Nat} {l:List ay} {i:Nat} {p:ay} (h:l[i]? =some p):lH I l (i+1)=if i∈I then lH I l i else lH I l i++[⟨p.id,9⟩]:=by
 rw [lH,List.range_succ,List.filter_append,List.filterMap_append,←lH];by_cases c:i∈I
 ·rw [if_pos c,List.filter_cons_of_neg (by simpa using c)];simp
 ·rw [if_neg c,List.filter_cons_of_pos (by simpa using c)];simp [h]
theorem xe (I:List Nat)(l:List ay)(i:Nat):(yn I l i).length≤i:=by
 refine Nat.le_trans (List.length_filterMap_le _ _) ?_;have:=List.length_filter_le (fun j=>decide (j∈I)) (List.range i);rwa [List.length_range] at this
theorem CB (I:List Nat)(l:List ay)(i:Nat):(lH I l i).length≤i:=by
 refine Nat.le_trans (List.length_filterMap_le _ _) ?_;have:=List.length_filter_le (fun j=> !decide (j∈I)) (List.range i);rwa [List.length_range] at this
theorem M4 {I:List Nat} {l:List ay} {i:Nat} {p:ay} (h:p∈yn I l i):p∈l:=by
 obtain⟨j,_,hj⟩:=List.mem_filterMap.1 h;exact zF hj
def lL (I:List Nat)(i:Nat):List Nat:=I.filter fun j=>decide (i≤j)
theorem De (I:List Nat):lL I 0=I:=by simp [lL]
theorem qJ: ∀ {I:List Nat} {i:Nat},I.Pairwise (· < ·)→lL I i=if i∈I then i::lL I (i+1) else lL I (i+1)
 | [],i,_=>by simp [lL]
 | j::r,i,h=>by
  obtain⟨h1,h2⟩:=List.pairwise_cons.1 h;have ih:=qJ (i:=i) h2;unfold lL at ih ⊢;rcases Nat.lt_trichotomy j i with q | q | q
  ·rw [List.filter_cons_of_neg (by simp;omega),List.filter_cons_of_neg (by simp;omega),ih];have:i∈j::r↔i∈r:=by simp;omega
   simp only [this]
  ·subst q;rw [List.filter_cons_of_pos (by simp),List.filter_cons_of_neg (by simp),if_pos (by simp),ih];have hn:j∉r:=fun c=>by have:=h1 j c;omega
   rw [if_neg hn]
  ·rw [List.filter_cons_of_pos (by simp;omega),List.filter_cons_of_pos (by simp;omega),ih];have hn:i∉r:=fun c=>by have:=h1 i c;omega
   rw [if_neg hn,if_neg (by simp;exact⟨by omega,hn⟩)]
theorem O4 {I:List Nat} {i j:Nat} (h:j∈lL I i):j∈I:=(List.mem_filter.1 h).1
theorem LU {I:List Nat} {i:Nat} (h:I.Pairwise (· < ·)):(∃r,lL I i=i::r)↔i∈I:=by
 constructor
 ·rintro⟨r,e⟩;exact O4 (i:=i) (by rw [e];simp)
 ·intro c;exact⟨_,by rw [qJ h,if_pos c]⟩
end Go.Toll
end
section
namespace Go.Toll
open Go Go.Abs
def dC (l:List ay):List ay:=aQ (fun a b=>decide (rX a b<0)) l
def zQ (S:List ay)(i:Nat)(p:ay):Bool:=(S.take i).any fun q=>decide (q.id=p.id)
def dX (S:List ay):Nat→List ay
 | 0=>[]
 | i+1=>match S[i]? with
  | some p=>if zQ S i p=true then dX S i else dX S i++[p]
  | none=>dX S i
def aW (l:List ay):List ay:=dX (dC l) (dC l).length
theorem vT {S:List ay} {i:Nat} {p:ay} (h:S[i]? =some p):dX S (i+1)=if zQ S i p=true then dX S i else dX S i++[p]:=by rw [dX,h]
theorem pE (S:List ay): ∀i:Nat,(dX S i).length≤i
 | 0=>by simp [dX]
 | i+1=>by
  have ih:=pE S i;rw [dX];split
  ·split
   ·omega
   ·simp;omega
  ·omega
theorem kU {S:List ay}: ∀ {i:Nat} {p:ay},p∈dX S i→p∈S.take i
 | 0,p,h=>by simp [dX] at h
 | i+1,p,h=>by
  rw [dX] at h;split at h
  ·rename_i q hq;have hm: ∀x,x∈S.take i→x∈S.take (i+1):=fun x hx=>by rw [zM];exact List.mem_append_left _ hx
   split at h
   ·exact hm _ (kU h)
   ·rcases List.mem_append.1 h with h | h
    ·exact hm _ (kU h)
    ·obtain rfl:=List.mem_singleton.1 h;rw [zM,hq];simp
  ·rw [zM];exact List.mem_append_left _ (kU h)
theorem vS {S:List ay} {p:ay}: ∀i:Nat,(dX S i).any (fun q=>decide (q.id=p.id))=zQ S i p
 | 0=>by simp [dX,zQ]
 | i+1=>by
  have ih:=vS (S:=S) (p:=p) i;unfold zQ at*;rw [dX,zM,List.any_append]
  cases hq:S[i]? with
  | none=>simp [ih]
  | some q=>
   simp only [Option.toList_some];split
   ·rename_i h;rw [ih];by_cases c:q.id=p.id
    ·have:(S.take i).any (fun x=>decide (x.id=p.id))=true:=by rw [←c];exact h
     rw [this];rfl
    ·simp [c]
   ·rw [List.any_append,ih]
theorem JG {S:List ay}: ∀i:Nat,((dX S i).map (·.id)).Nodup
 | 0=>by simp [dX]
 | i+1=>by
  have ih:=JG (S:=S) i;rw [dX];split
  ·rename_i q hq;split
   ·exact ih
   ·rename_i h;rw [←vS,Bool.not_eq_true,List.any_eq_false] at h;rw [List.map_append,List.nodup_append];refine⟨ih,by simp,fun a ha b hb=> ?_⟩;obtain⟨x,hx,rfl⟩:=List.mem_map.1 ha;simp at hb;subst hb;have:=h x hx;simpa using this
  ·exact ih
theorem M5 {α:Type} {lt:α→α→Bool} (o:SWO lt) {x:α} {l:List α} (hs:pU lt l) {k:Nat} (hk:k≤l.length)(h1: ∀i y,i<k→l[i]? =some y→lt x y=false)(h2: ∀y,l[k]? =some y→lt x y=true):iQ lt x l=l.take k++x::l.drop k:=by
 obtain⟨g1,g2,g3⟩:=yu o x l hs l.length (Nat.le_refl _);have e:fM lt x l l.length=k:=by
  rcases Nat.lt_trichotomy (fM lt x l l.length) k with q | q | q
  ·obtain⟨y,hy,_⟩:=aJ (l:=l) (i:=fM lt x l l.length) (by omega);have a:=g3 _ y (Nat.le_refl _) (by omega) hy;rw [h1 _ y q hy] at a;cases a
  ·exact q
  ·obtain⟨y,hy,_⟩:=aJ (l:=l) (i:=k) (by omega);have a:=g2 _ y q hy;rw [h2 y hy] at a;cases a
 rw [iQ,e]
theorem Gx (a b:Bytes):iZ a b=Lib.compareBytes a b:=by
 unfold iZ;have h1:=wQ a b;have h2:=oK a b;have h3:=xZ a b;split
 ·rename_i h;exact (h1.2 h).symm
 ·rename_i h;have h0:Lib.compareBytes a b≠0:=fun e=>h (h1.1 e);split
  ·rename_i hl;rw [hl] at h2;have:=of_decide_eq_true h2;omega
  ·rename_i hl;rw [Bool.not_eq_true] at hl;rw [hl] at h2;have:=of_decide_eq_false h2;omega
theorem sG (a b:Int):cz [a,b]=if a=0 then (if b=0 then 0 else b) else a:=by
 simp only [cz];by_cases h1:a=0 <;> by_cases h2:b=0 <;> simp [h1,h2]
def Xf (x:List AV):Bytes:=strOf (x.getD 0 .junk)
def Kh (x:List AV):Int:=match x.getD 4 .junk with
 | .ro (e::_)=>intOf (e.getD 1 .junk)
 | _=>0
def xL (x y:List AV):Int:=cz [ig (Kh x) (Kh y),iZ (Xf x) (Xf y)]
def Xb (x y:List AV):Int:=iZ (Xf x) (Xf y)
theorem LC:jm xL:=by
 have:=(Cz.comap Kh).lex ((qC.comap Xf).lex vU);refine Eq.mp (congrArg jm ?_) this;funext x y
 rw [xL,sG,Gx];rfl
def DI (x:bW):Int:=(x.stops.headD ⟨[],0,[]⟩).time
def qU (x y:bW):Int:=cz [ig (DI x) (DI y),iZ x.id y.id]
theorem FW {x:bW} (h:x.stops≠[]):Kh (aD x)=DI x:=by
 obtain⟨a,l,hl⟩:=List.exists_cons_of_ne_nil h;simp [Kh,aD,DI,hl,ak,intOf]
theorem FY {x y:bW} (hx:x.stops≠[])(hy:y.stops≠[]):xL (aD x) (aD y)=qU x y:=by rw [xL,FW hx,FW hy];rfl
def MO (x y:kD):Int:=iZ x.id y.id
def dK (l:List bW):List bW:=aQ (fun x y=>decide (qU x y<0)) l
def iC (l:List kD):List kD:=aQ (fun x y=>decide (MO x y<0)) l
theorem LB:jm qU:=by
 have:=(Cz.comap DI).lex ((qC.comap bW.id).lex vU);refine Eq.mp (congrArg jm ?_) this;funext x y
 rw [qU,sG,Gx];rfl
structure bS where
 trips:List bW
 out:List kD
 opn:List aX
 before:Bytes
 last:Bytes
def eB (why:Int)(l:List aX):List kD:=(l.filter Vd).map fun s=>⟨s.pass,why⟩
theorem K6 {why:Int} {l:List aX} {i:Nat} {s:aX} (h:l[i]? =some s):eB why (l.take (i+1))=if s.pass=[] then eB why (l.take i) else eB why (l.take i)++[⟨s.pass,why⟩]:=by
 rw [zM,h];by_cases c:s.pass=[] <;> simp [eB,Vd,c]
theorem iH (why:Int)(l:List aX):(eB why l).length≤l.length:=by rw [eB,List.length_map];exact List.length_filter_le _ _
def qZ (l:List Int)(c:Int):Nat:=(l.filter fun n=>decide (n=c)).length
def qA (l:List Int):Nat→Int
 | 0=>0
 | k+1=>if 0<qZ l (k+1:Nat)∧(qA l k=0∨qZ l (qA l k)<qZ l (k+1:Nat)) then ((k+1:Nat):Int) else qA l k
def Ac (l:List Int):Int:=qA l 9
def kz (t:aY)(veh:Bytes)(cls:Bytes→Int)(l:List aX)(before:Bytes):bW:=
 let a:=l.headD ⟨[],0,[]⟩
 let id:=(bu l).headD []
 ⟨if id=[] then before++[43]++a.point else id,veh,jf t a.point,max (Ac ((bu l).map cls)) 1,l⟩
def sameB (t:aY)(opn:List aX)(s:aX):Bool:=match opn with
 | []=>false
 | a::_=>decide (jf t a.point=jf t s.point)
def wU (t:aY)(opn:List aX)(s:aX):Bool:=match opn with
 | []=>false
 | a::_=>decide (jf t a.point=jf t s.point) && decide (s.time - a.time≤xJ t a.point)
def mh (t:aY)(opn:List aX)(s:aX):Nat:=
 if kindOf t s.point=1 then 0 else if kindOf t s.point=2 then 1
 else if kindOf t s.point=3 then (if wU t opn s=true then 2 else 4)
 else if opn≠[]∧((fF t s.point).isSome=false∨sameB t opn s=true) then 3 else 5
def lC (t:aY)(veh:Bytes)(cls:Bytes→Int)(w:bS)(s:aX):bS:=match mh t w.opn s with
 | 0=> { w with trips:=w.trips++[kz t veh cls [s] w.last] }
 | 1=> { w with out:=w.out++eB 11 w.opn,opn:=[s],before:=w.last }
 | 2=> { w with trips:=w.trips++[kz t veh cls (w.opn++[s]) w.before],opn:=[] }
 | 3=> { w with opn:=w.opn++[s] }
 | 4=> { w with out:=w.out++eB 11 w.opn++eB 10 [s],opn:=[] }
 | _=> { w with out:=w.out++eB 12 [s] }
def bV (t:aY)(veh:Bytes)(cls:Bytes→Int)(w:bS)(s:aX):bS:=
 if s.pass=[] then lC t veh cls w s else { lC t veh cls w s with last:=s.pass }
def uO (w:bS):bS:= { w with out:=w.out++eB 11 w.opn,opn:=[] }
def jc (t:aY)(l:List ay):List kD:=(l.filter fun p=>decide (kindOf t p.point=0)).map fun p=>⟨p.id,3⟩
def bC (t:aY)(l:List ay):List ay:=l.filter fun p=> !decide (kindOf t p.point=0)
def bP (t:aY)(l:List ay)(others:List kD):bS:=⟨[],jc t l++others,[],[],[]⟩
def Ky (t:aY)(veh:Bytes)(cls:Bytes→Int)(w:bS)(stops:List aX):bS:=uO (stops.foldl (bV t veh cls) w)
def encZ' (n:Int):AV:= .int .i64 n
def iV (t:aY)(veh:Bytes)(mb:Nat)(tr ou op:AV)(before last:Bytes):List AV:=
 [.ro (t.net.pts.map jI),.ro (t.net.lks.map ja),.ro (t.sys.map dO),.str veh,.map mb,tr,ou,op,.str before,.str last]
@[simp] theorem XO (t:aY) (veh:Bytes) (mb:Nat) (tr ou op:AV) (before last:Bytes):(iV t veh mb tr ou op before last).length=10:=rfl
structure wJ (t:aY)(veh:Bytes)(mb:Nat)(m:List (Bytes×Int))(b lo:Nat)(H:af)(tr ou op:AV)(w:bS):Prop where
 blk:H[b]? =some (.cells 10 [iV t veh mb tr ou op w.before w.last])
 mp:H[mb]? =some (.map (sM encZ' m))
 trips:Ls 5 lo H tr (w.trips.map aD)
 out:Ls 2 lo H ou (w.out.map bf)
 low:lo≤b
 lom:lo≤mb
structure oD (lo:Nat)(H H':af):Prop where
 base: ∀h0:af,h0.length≤lo→(∃g,H=h0++g)→ ∃g,H'=h0++g
 stops: ∀(k:Nat) (es:List (List AV)),H[k]? =some (.cells 3 es)→H'[k]? =some (.cells 3 es)
theorem oD.refl (lo:Nat)(H:af):oD lo H H:=⟨fun _ _ h=>h,fun _ _ h=>h⟩
theorem oD.trans {lo:Nat} {H H' H'':af} (a:oD lo H H')(b:oD lo H' H''):oD lo H H'':=⟨fun h0 hl hb=>b.base h0 hl (a.base h0 hl hb),fun k es hk=>b.stops k es (a.stops k es hk)⟩
theorem oD.more {lo:Nat} {H H':af} (a:oD lo H H')(g:af):oD lo H (H'++g):=
 ⟨fun h0 hl hb=>aI (a.base h0 hl hb) g,fun k es hk=>aP (a.stops k es hk) g⟩
theorem oD.set {lo:Nat} {H H':af} (a:oD lo H H') {b n:Nat} {es:List (List AV)} (hb:H'[b]? =some (.cells n es))(hn:n≠3)(hl:lo≤b)(o:bY):oD lo H (H'.set b o):=
 ⟨fun h0 h1 hg=>dA (a.base h0 h1 hg) (by omega) o,fun k es' hk=>by
  have h1:=a.stops k es' hk;by_cases e:k=b
  ·subst e;rw [hb] at h1;injection h1 with h1;injection h1 with h1 _;exact absurd h1 hn
  ·rw [zJ (fun c=>e c.symm)];exact h1⟩
theorem oD.grow {lo n:Nat} {H H' H'':af} {x:AV} {es:List (List AV)} (a:oD lo H H')(hx:Ls n lo H' x es)(hn:n≠3)(g:Grow lo H' x H''):oD lo H H'':=
 ⟨fun h0 h1 hg=>g.base h0 h1 (a.base h0 h1 hg),fun k es' hk=>by
  have h1:=a.stops k es' hk;refine g.keep k _ h1 fun off len e=> ?_;rcases hx.1 with⟨e1,_⟩ | ⟨b,e1,_,hb⟩
  ·rw [e1] at e;cases e
  ·rw [e1] at e;injection e with e2;subst e2;rw [hb] at h1;injection h1 with h1;injection h1 with h1 _;exact absurd h1 hn⟩
theorem oD.ls {lo lo':Nat} {H H':af} (a:oD lo H H') {x:AV} {es:List (List AV)} (hx:Ls 3 lo' H x es):Ls 3 lo' H' x es:=by
 obtain⟨h1,h2⟩:=hx;refine⟨?_,h2⟩;rcases h1 with h1 | ⟨b,e,hl,hb⟩
 ·exact .inl h1
 ·exact .inr ⟨b,e,hl,a.stops b _ hb⟩
theorem oD.rs {lo:Nat} {H H':af} (a:oD lo H H') {x:AV} {es:List (List AV)} (hx:Rs 3 H x es):Rs 3 H' x es:=by
 rcases hx with⟨rfl | ⟨b,off,all,rfl,hb,he⟩,hn⟩ | hr
 ·exact .inl ⟨.inl rfl,hn⟩
 ·exact .inl ⟨.inr ⟨b,off,all,rfl,a.stops b _ hb,he⟩,hn⟩
 ·exact .inr hr
theorem sS {n m lo:Nat} {H:af} {x:AV} {es:List (List AV)} {b:Nat} {es':List (List AV)} (hx:Ls n lo H x es)(hb:H[b]? =some (.cells m es'))(hnm:m≠n): ∀off len,x≠ .own b off len:=by
 intro off len e;rcases hx.1 with⟨e1,_⟩ | ⟨b',e1,_,hb'⟩
 ·rw [e1] at e;cases e
 ·rw [e1] at e;injection e with e2;subst e2;rw [hb] at hb';injection hb' with h1;injection h1 with h1 _;exact hnm h1
theorem kT {n lo:Nat} {H:af} {x:AV} {es:List (List AV)} {b:Nat} {kv:List (AV×AV)} (hx:Ls n lo H x es)(hb:H[b]? =some (.map kv)): ∀off len,x≠ .own b off len:=by
 intro off len e;rcases hx.1 with⟨e1,_⟩ | ⟨b',e1,_,hb'⟩
 ·rw [e1] at e;cases e
 ·rw [e1] at e;injection e with e2;subst e2;rw [hb] at hb';cases hb'
theorem iT {n m lo:Nat} {H:af} {x:AV} {es:List (List AV)} {b:Nat} {es':List (List AV)} (hx:Ls n lo H x es)(hb:H[b]? =some (.cells m es'))(hnm:m≠n)(o:bY):Ls n lo (H.set b o) x es:=by
 obtain⟨h1,h2⟩:=hx;refine⟨?_,h2⟩;rcases h1 with h1 | ⟨b',e,hl,hb'⟩
 ·exact .inl h1
 ·refine .inr ⟨b',e,hl,?_⟩;have:b≠b':=by
   rintro rfl;rw [hb] at hb';injection hb' with h1;injection h1 with h1 _;exact hnm h1
  rw [zJ this];exact hb'
theorem get_put {H:af} {b k:Nat} {o o' p:bY} (hb:H[b]? =some o)(hk:H[k]? =some o')(hne:b≠k):(H.set b p)[k]? =some o':=by
 rw [zJ hne];exact hk
theorem gQ {n m lo lo':Nat} {H H':af} {x y:AV} {es es':List (List AV)} (hx:Ls n lo H x es)(hy:Ls m lo' H y es')(hnm:n≠m)(g:Grow lo' H y H'):Ls n lo H' x es:=by
 obtain⟨h1,h2⟩:=hx;refine⟨?_,h2⟩;rcases h1 with h1 | ⟨b,e,hl,hb⟩
 ·exact .inl h1
 ·exact .inr ⟨b,e,hl,g.keep b _ hb (sS hy hb hnm)⟩
theorem Vj {n m:Nat} {H:af} {b k:Nat} {es es':List (List AV)} (hb:H[b]? =some (.cells n es))(hk:H[k]? =some (.cells m es'))(hnm:n≠m):b≠k:=by
 rintro rfl;rw [hb] at hk;injection hk with h1;injection h1 with h1 _;exact hnm h1
theorem nX {n:Nat} {H:af} {b k:Nat} {es:List (List AV)} {kv:List (AV×AV)} (hb:H[b]? =some (.cells n es))(hk:H[k]? =some (.map kv)):b≠k:=by
 rintro rfl;rw [hb] at hk;cases hk
theorem wJ.more {t:aY} {veh:Bytes} {mb:Nat} {m:List (Bytes×Int)} {b lo:Nat} {H:af} {tr ou op:AV} {w:bS} (h:wJ t veh mb m b lo H tr ou op w)(g:af):wJ t veh mb m b lo (H++g) tr ou op w:=
 ⟨aP h.blk g,aP h.mp g,h.trips.more g,h.out.more g,h.low,h.lom⟩
theorem wJ.put {t:aY} {veh:Bytes} {mb:Nat} {m:List (Bytes×Int)} {b lo:Nat} {H:af} {tr ou op:AV} {w:bS} (h:wJ t veh mb m b lo H tr ou op w)(op':AV) {w':bS} (e1:w'.trips=w.trips)(e2:w'.out=w.out):
  wJ t veh mb m b lo (H.set b (.cells 10 [iV t veh mb tr ou op' w'.before w'.last])) tr ou op' w':=
 ⟨zI (aK h.blk),get_put h.blk h.mp (nX h.blk h.mp),by rw [e1];exact iT h.trips h.blk (by decide) _,by rw [e2];exact iT h.out h.blk (by decide) _,h.low,h.lom⟩
end Go.Toll
end
section
namespace Go.Proofs.YtkpioblbeiaefaaGreat
open Go Go.Abs Go.Toll
variable {gl : aM} {h : af}
def Lu:Nat→Option (List (Nat×Nat)):=fun id=>if id=4 then some [(4,10)] else none
set_option maxHeartbeats 4000000 in
theorem qP (why:Int)(l:List aX)(x:AV) {t:aY} {veh:Bytes} {mb:Nat} {m:List (Bytes×Int)} {b lo:Nat} {tr ou op:AV} {w:bS} (hw:wJ t veh mb m b lo h tr ou op w)(hx:Rs 3 h x (l.map ak))
  (hl:l.length≤100000) (ho:w.out.length≤1000000) (hopf:op.core=op∧op.gd=true∧op.solid=true∧ah op=[op]):aa Tryz.prog gl 112 [.ptr b 0 0,.int .i64 why,x] h fun v h'=>v= .tup []∧(∃ou',wJ t veh mb m b lo h' tr ou' op { w with out:=w.out++eB why l })∧oD lo h h':=by
 refine aa.bodyL Lu Tryz.f112 _ mixed Tryz.func112 rfl rfl (by simp [Tryz.ntmps112]) ?_;have fx:=hx.fix;have lx:=hx.len2;simp [Lu,fx,lx];refine aT.upL Lu mixed l.length (fun i fr H=>fr 0= .ptr b 0 0∧fr 1= .int .i64 why∧fr 8=x∧fr 9= .int .i64 l.length∧fr 10= .int .i64 i∧(∃ou',wJ t veh mb m b lo H tr ou' op { w with out:=w.out++eB why (l.take i) })∧oD lo h H) 0 (by omega)
  ⟨by simp,by simp,by simp,by simp,by simp,⟨ou,by simpa [eB] using hw⟩,oD.refl _ _⟩ ?_
 rintro i fr H hi ⟨e0,e1,e8,e9,e10,⟨ou',hW⟩,hK⟩;have hxH:=hK.rs hx;have hb3:=at3 hW.blk;simp only [iV] at hb3;have htf:=hW.trips.rs.fix;have hof:=hW.out.rs.fix;have hbl:=hb3.2.1;rcases zN i l.length with hlt | hge
 ·obtain⟨s,hs,hs'⟩:=aJ hlt;have ew:=aB (i:=i) (by omega);have hsuc:=K6 (why:=why) hs;have hel:=iH why (l.take i);have htl:=List.length_take_le i l;have rx:=Rs.ix Tryz.prog hxH i (by omega) (y:=ak s) (by simp [hs]);have fxH:=hxH.fix;have lxH:=hxH.len2;simp only [ak] at rx;by_cases c:s.pass=[]
  ·rw [if_pos c] at hsuc;simp [Lu,e0,e1,e8,e9,e10,hlt,fxH,lxH,rx,c,ew];refine⟨i+1,by omega,by omega,by omega,⟨ou',?_⟩,hK.more _⟩;rw [hsuc];exact⟨aP hW.blk _,aP hW.mp _,hW.trips.more _,hW.out.more _,hW.low,hW.lom⟩
  ·rw [if_neg c] at hsuc;have hb3':=at3 (aP hW.blk [.cells 3 [[.str s.point,.int .i64 s.time,.str s.pass]]]);have hb3'':=at3 (aP hW.blk [.cells 3 [[.str s.point,.int .i64 s.time,.str s.pass]],.cells 2 [[.str s.pass,.int .i64 why]]]);simp only [iV] at hb3' hb3'';simp [Lu,-aj,-au,-ah,-AV.solid,e0,e1,e8,e9,e10,hlt,fxH,lxH,rx,c,hb3,hb3',hb3'',hof,htf];refine⟨by decide,?_⟩;obtain⟨g,hg⟩: ∃g:af,g=[.cells 3 [[.str s.point,.int .i64 s.time,.str s.pass]],.cells 2 [[.str s.pass,.int .i64 why]]]:=⟨_,rfl⟩;have hK1:=hK.more g;have hB1:=aP hW.blk g;have hM1:=aP hW.mp g;have hT1:=hW.trips.more g;have hO1:=hW.out.more g;have hlo:=hW.low;have hap:bE Tryz.prog (H++g) [33,33] 2 (.own (H.length+1) 0 1) [bf ⟨s.pass,why⟩]:=by rw [hg];simp [bE,bf]
   rw [←hg];refine aN (lo:=lo) (n:=2) (es:=(w.out++eB why (l.take i)).map bf) (ys:=[bf ⟨s.pass,why⟩]) hO1 (by simp;omega) hap (by simp;omega) ?_;intro s1 H1 hs1 hg1 hn1;have hs1f:=hs1.rs.fix;have hb1:=hg1.keep b _ hB1 (sS hO1 hB1 (by decide));have hm1:=hg1.keep mb _ hM1 (kT hO1 hM1);have ht1:=gQ hT1 hO1 (by decide) hg1;have hk1:=hK1.grow hO1 (by decide) hg1;have hb13:=at3 hb1;have hbg:=at3 hB1;simp only [iV] at hb13 hbg;simp [Lu,-aj,-au,-ah,-AV.solid,e0,e1,e8,e9,e10,hs1f,hb13,hbg,ew];refine⟨i+1,by omega,by omega,by omega,⟨s1,?_⟩,hk1.set hb1 (by decide) hlo _⟩;rw [hsuc];refine⟨?_,get_put hb1 hm1 (nX hb1 hm1),iT ht1 hb1 (by decide) _,?_,hW.low,hW.lom⟩
   ·rw [zI hb13.2.1];simp [iV]
   ·have:=iT hs1 hb1 (by decide) (.cells 10 [iV t veh mb tr s1 op w.before w.last]);simpa [iV] using this
 ·obtain rfl:i=l.length:=by omega
  rw [List.take_length] at hW;simp [Lu,e0,e1,e8,e9,e10];exact⟨⟨ou',hW⟩,hK⟩
set_option maxHeartbeats 1000000 in
theorem uE {t:aY} {veh:Bytes} {mb:Nat} {m:List (Bytes×Int)} {b lo:Nat} {tr ou op:AV} {w:bS} (hw:wJ t veh mb m b lo h tr ou op w)(hop:Ls 3 lo h op (w.opn.map ak))
  (hl:w.opn.length≤100000) (ho:w.out.length≤1000000):aa Tryz.prog gl 78 [.ptr b 0 0] h fun v h'=>v= .tup []∧(∃ou',wJ t veh mb m b lo h' tr ou' .nil (uO w))∧oD lo h h':=by
 refine aa.body Tryz.f78 _ mixed Tryz.func78 rfl rfl (by simp [Tryz.ntmps78]) ?_;have hof:=hop.rs.fix;have hb3:=at3 hw.blk;simp only [iV] at hb3;simp [-ah,-AV.solid,hb3,hof];refine ax.any (qP 11 w.opn op hw hop.rs hl ho hof) ?_;rintro v h' ⟨rfl,⟨ou',hW⟩,hK⟩;have hb4:=at3 hW.blk;simp only [iV] at hb4;have htf:=hW.trips.rs.fix;have huf:=hW.out.rs.fix;simp [-ah,-AV.solid,hb4,hof,htf,huf];refine⟨⟨ou',?_⟩,hK.set hW.blk (by decide) hW.low _⟩;refine⟨?_,get_put hW.blk hW.mp (nX hW.blk hW.mp),iT hW.trips hW.blk (by decide) _,iT hW.out hW.blk (by decide) _,hW.low,hW.lom⟩;rw [zI hb4.2.1];simp [iV,uO]
def vQ:Nat→Option (List (Nat×Nat)):=fun id=>if id=2 then some [(3,11),(5,11),(6,11)] else none
set_option maxHeartbeats 4000000 in
theorem PL (s:aX) {t:aY} {veh:Bytes} {mb:Nat} {m:List (Bytes×Int)} {b lo:Nat} {tr ou op:AV} {w:bS} (hw:wJ t veh mb m b lo h tr ou op w)(hop:Ls 3 lo h op (w.opn.map ak))
  (hl:w.opn.length≤100000) (hs:0≤s.time∧s.time<68719476736) (hot: ∀x∈w.opn,0≤x.time∧x.time<68719476736) (hp:t.net.pts.length≤1000) (hlk:t.net.lks.length≤1000) (hsy:t.sys.length≤1000):
  aa Tryz.prog gl 110 [.ptr b 0 0,.agg (ak s)] h fun v h'=>v= .int .i64 (mh t w.opn s)∧h'=h:=by
 refine aa.data (by simp) (aa.bodyL vQ Tryz.f110 _ mixed Tryz.func110 rfl rfl (by simp [Tryz.ntmps110]) ?_);have hof:=hop.rs.fix;have hol:=hop.rs.len2;have kd:=fun (H:af) (s:Bytes)=>jg (gl:=gl) (h:=H) t s hp hlk hsy;have sys:=fun (H:af)=>gU (gl:=gl) (h:=H) t s.point hp hlk hsy;obtain⟨c1,hc1⟩: ∃c1:bY,c1= .cells 3 [[.str s.point,.int .i64 s.time,.str s.pass]]:=⟨_,rfl⟩;have hb3:=at3 hw.blk;have hb4:=at3 (aP hw.blk [.cells 3 [[.str s.point,.int .i64 s.time,.str s.pass]]]);simp only [iV] at hb3 hb4;simp [vQ,-ah,-AV.solid,ak,hb3,hb4,hof];refine⟨by decide,?_⟩;refine ax.pure _ (fun _=>kd _ s.point) ?_;have e1:jf t s.point=((fF t s.point).getD sys0).name:=rfl;have e3:(fF t s.point).isSome=(fF t s.point).isSome:=rfl;unfold mh;generalize kindOf t s.point=k at*;generalize hy:(fF t s.point).getD sys0=y at*;generalize hz:(fF t s.point).isSome=z at*;simp [vQ,-ah,-AV.solid,ak,hb3,hb4,hof];refine⟨by decide,?_⟩;refine ax.pure _ (fun _=>sys _) ?_;obtain⟨g3,hg3⟩: ∃g3:af,g3=[.cells 3 [[.str s.point,.int .i64 s.time,.str s.pass]],.cells 3 [[.str y.name,.bool y.closed,.int .i64 y.most]],.cells 3 [[.str [],.bool false,.int .i64 0]]]:=⟨_,rfl⟩;have lo3:=(hop.more g3).rs.len2;have hb5:=at3 (aP hw.blk g3);rw [hg3] at lo3 hb5;simp only [iV] at hb5
 cases hopn:w.opn with
 | nil=>
  rw [hopn] at lo3;simp at lo3;simp [vQ,-ah,-AV.solid,ak,hb3,hb4,hb5,hof,lo3];refine⟨ax.pure _ (fun _=>sys _) (by simp),?_⟩;by_cases k1:k=1
  ·simp [vQ,k1]
  by_cases k2:k=2
  ·simp [vQ,k1,k2]
  by_cases k3:k=3
  ·simp [vQ,k1,k2,k3,wU];decide
  simp [vQ,-ah,-AV.solid,ak,hb3,hb4,hb5,hof,lo3,k1,k2,k3]
 | cons a r=>
  have sya:=fun (H:af)=>gU (gl:=gl) (h:=H) t a.point hp hlk hsy;have e4:jf t a.point=((fF t a.point).getD sys0).name:=rfl;have e5:xJ t a.point=((fF t a.point).getD sys0).most:=rfl;generalize hya:(fF t a.point).getD sys0=ya at*;generalize (fF t a.point).isSome=za at*;have hta:=hot a (by rw [hopn];simp);have wd:IntKind.i64.wrap (s.time - a.time)=s.time - a.time:=aC (by omega) (by omega);have hpos:(0:Int)<((r.length+1:Nat):Int):=by omega
  have hpos':(0:Int)<(r.length:Int)+1:=by omega
  obtain⟨g4,hg4⟩: ∃g4:af,g4=[.cells 3 [[.str s.point,.int .i64 s.time,.str s.pass]],.cells 3 [[.str y.name,.bool y.closed,.int .i64 y.most]],.cells 3 [[.str ya.name,.bool ya.closed,.int .i64 ya.most]]]:=⟨_,rfl⟩;have lo4:=(hop.more g4).rs.len2;have hb6:=at3 (aP hw.blk g4);have r3:=Rs.ix Tryz.prog (hop.more g3).rs 0 (by omega) (y:=ak a) (by simp [hopn]);have r4:=Rs.ix Tryz.prog (hop.more g4).rs 0 (by omega) (y:=ak a) (by simp [hopn]);rw [hg3] at r3;rw [hg4] at r4 lo4 hb6;rw [hopn] at lo3 lo4;simp only [iV] at hb6;simp only [ak] at r3 r4;simp at lo3 lo4;simp [vQ,-ah,-AV.solid,ak,hb3,hb4,hb5,hof,lo3,r3,hpos'];refine⟨ax.pure _ (fun _=>sys _) (by simp),?_⟩;refine⟨⟨by decide,?_⟩,fun hc=>absurd hc (by omega)⟩;refine ax.pure _ (fun _=>sya _) ?_;simp [vQ,-ah,-AV.solid,ak,hb3,hb4,hb5,hb6,hof,lo3,lo4,r3,r4,hpos'];by_cases k1:k=1
  ·simp [k1]
  by_cases k2:k=2
  ·simp [k1,k2]
  by_cases k3:k=3
  ·by_cases q1:ya.name=y.name
   ·by_cases q2:s.time - a.time≤ya.most
    ·simp [vQ,-ah,-AV.solid,ak,hb6,hof,lo4,r4,k1,k2,k3,wU,e1,e4,e5,q1,q2,wd];decide
    ·simp [vQ,-ah,-AV.solid,ak,hb6,hof,lo4,r4,k1,k2,k3,wU,e1,e4,e5,q1,q2,wd];decide
   ·simp [vQ,-ah,-AV.solid,ak,hb6,hof,lo4,r4,k1,k2,k3,wU,e1,e4,e5,q1,wd];decide
  by_cases q1:ya.name=y.name
  ·simp [vQ,-ah,-AV.solid,ak,hb6,hof,lo4,r4,k1,k2,k3,Go.Toll.sameB,e1,e4,q1,hpos']
  ·cases z <;> simp [vQ,-ah,-AV.solid,ak,hb6,hof,lo4,r4,k1,k2,k3,Go.Toll.sameB,e1,e4,q1,hpos']
end Go.Proofs.YtkpioblbeiaefaaGreat
end
