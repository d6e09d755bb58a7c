/- Part 12 of the lemmas below the statements of this seat: TollChain, TollWalk, TollWalkH, TripC, TollWalkL. -/
import Derived.Test.YtkpioblbeiaefaaGreatPb11
set_option linter.unusedSectionVars false
set_option linter.unusedVariables false
set_option linter.unusedSimpArgs false
set_option linter.unnecessarySimpa false
set_option maxRecDepth 100000
section
namespace Go.Toll
open Go Go.Abs
section
variable (G : Nat → Nat → Bool) (n : Nat)
def je (i:Nat):List Nat:=(List.range n).filter (G i)
def ja (i:Nat)(S:Nat→Nat)(l:List Nat)(m:Nat):Nat:=l.foldl (fun m j=>if i<j then max m (S j+1) else m) m
def Bb:Nat→(Nat→Nat)
 | 0=>fun _=>0
 | k+1=>fun j=>if j=n - 1 - k then ja (n - 1 - k) (Bb k) (je G n (n - 1 - k)) 1 else Bb k j
def iB (j:Nat):Nat:=Bb G n n j
theorem AZ {i:Nat} {S S':Nat→Nat}: ∀ {l:List Nat} {m:Nat},(∀j∈l,i<j→S j=S' j)→ja i S l m=ja i S' l m
 | [],_,_=>rfl
 | j::r,m,h=>by
  have e:(if i<j then max m (S j+1) else m)=if i<j then max m (S' j+1) else m:=by
   by_cases c:i<j
   ·rw [if_pos c,if_pos c,h j (by simp) c]
   ·rw [if_neg c,if_neg c]
  show ja i S r (if i<j then max m (S j+1) else m)=ja i S' r (if i<j then max m (S' j+1) else m);rw [e];exact AZ fun k hk=>h k (by simp [hk])
theorem DJ {i:Nat} {S:Nat→Nat}: ∀ {l:List Nat} {m:Nat},m≤ja i S l m
 | [],_=>Nat.le_refl _
 | j::r,m=>by
  have:m≤if i<j then max m (S j+1) else m:=by split <;> omega
  exact Nat.le_trans this DJ
theorem KW {i:Nat} {S:Nat→Nat} {j:Nat} (hij:i<j): ∀ {l:List Nat} {m:Nat},j∈l→S j+1≤ja i S l m
 | [],_,h=>by cases h
 | k::r,m,h=>by
  rcases List.mem_cons.1 h with rfl | h
  ·have:S j+1≤if i<j then max m (S j+1) else m:=by rw [if_pos hij];omega
   exact Nat.le_trans this DJ
  ·exact KW hij (l:=r) h
theorem DK {i:Nat} {S:Nat→Nat}: ∀ {l:List Nat} {m:Nat},ja i S l m=m∨ ∃j∈l,i<j∧ja i S l m=S j+1
 | [],_=> .inl rfl
 | k::r,m=>by
  have e:ja i S (k::r) m=ja i S r (if i<k then max m (S k+1) else m):=rfl;rcases DK (i:=i) (S:=S) (l:=r) (m:=if i<k then max m (S k+1) else m) with h | ⟨j,h1,h2,h3⟩
  ·by_cases c:i<k
   ·rw [if_pos c] at h e;rcases Nat.le_total m (S k+1) with q | q
    ·exact .inr ⟨k,by simp,c,by rw [e,h];omega⟩
    ·exact .inl (by rw [e,h];omega)
   ·rw [if_neg c] at h e;exact .inl (by rw [e,h])
  ·exact .inr ⟨j,by simp [h1],h2,by rw [e,h3]⟩
variable {G n}
theorem kW {i j:Nat}:j∈je G n i↔j<n∧G i j=true:=by rw [je,List.mem_filter,List.mem_range]
theorem DI (i:Nat):(je G n i).length≤n:=by
 have:=List.length_filter_le (G i) (List.range n);rw [List.length_range] at this;exact this
theorem D9 {j k:Nat} (h:n≤j+k): ∀d:Nat,k+d≤n→Bb G n (k+d) j=Bb G n k j
 | 0,_=>rfl
 | d+1,hd=>by
  have:j≠n - 1 - (k+d):=by omega
  show (if j=n - 1 - (k+d) then _ else Bb G n (k+d) j)=_;rw [if_neg this];exact D9 h d (by omega)
theorem HV {j k:Nat} (h:n≤j+k)(hk:k≤n):Bb G n k j=iB G n j:=by
 have:=D9 (G:=G) h (n - k) (by omega);rw [show k+(n - k)=n by omega] at this;exact this.symm
theorem xC {i:Nat} (h:i<n):iB G n i=ja i (iB G n) (je G n i) 1:=by
 have e1:=HV (G:=G) (n:=n) (j:=i) (k:=n - 1 - i+1) (by omega) (by omega);rw [←e1];have e2:n - 1 - (n - 1 - i)=i:=by omega
 show (if i=n - 1 - (n - 1 - i) then ja (n - 1 - (n - 1 - i)) (Bb G n (n - 1 - i)) (je G n (n - 1 - (n - 1 - i))) 1 else _)=_;rw [e2,if_pos rfl];exact AZ fun j hj hij=>HV (by omega) (by omega)
theorem SB {k j:Nat} (h:k<j)(hj:j<n)(hg:G k j=true):iB G n j+1≤iB G n k:=by
 rw [xC (by omega:k<n)];exact KW h (kW.2 ⟨hj,hg⟩)
theorem Pv {k:Nat} (h:k<n):1≤iB G n k:=by rw [xC h];exact DJ
theorem SA {k:Nat} (h:k<n):iB G n k=1∨ ∃j,k<j∧j<n∧G k j=true∧iB G n k=iB G n j+1:=by
 rw [xC h];rcases DK (i:=k) (S:=iB G n) (l:=je G n k) (m:=1) with q | ⟨j,h1,h2,h3⟩
 ·exact .inl q
 ·exact .inr ⟨j,h2,(kW.1 h1).1,(kW.1 h1).2,h3⟩
theorem Sz: ∀(d k:Nat),n - k≤d→k<n→iB G n k≤n - k
 | 0,k,h,hk=>by omega
 | d+1,k,h,hk=>by
  rcases SA (G:=G) hk with q | ⟨j,h1,h2,h3,h4⟩
  ·omega
  ·have:=Sz d j (by omega) h2;omega
theorem vP {k:Nat} (hk:k<n):iB G n k≤n:=by have:=Sz (G:=G) (n - k) k (Nat.le_refl _) hk;omega
def lw (G:Nat→Nat→Bool)(n c:Nat):Nat:=(((List.range n).drop c).map (iB G n)).foldr max 0
theorem sK {c:Nat} (h:c<n):(List.range n).drop c=c::(List.range n).drop (c+1):=by
 rw [List.drop_eq_getElem_cons (by simpa using h)];simp
theorem q9 {c:Nat} (h:c<n):lw G n c=max (iB G n c) (lw G n (c+1)):=by
 rw [lw,sK h];rfl
theorem yJ:lw G n n=0:=by rw [lw,zH (by simp)];rfl
theorem Cr : ∀ (d c : Nat), n - c = d → c ≤ n → lw G n c ≤ n
  | 0, c, h, hc => by obtain rfl : c = n := by omega
                      rw [yJ]; omega
  | d + 1, c, h, hc => by
    rw [q9 (by omega)]
    have h1 := vP (G := G) (n := n) (k := c) (by omega)
    have h2 := Cr d (c + 1) (by omega) (by omega)
    omega
theorem JH: ∀(d c:Nat),n - c=d→ ∀j,c≤j→j<n→iB G n j≤lw G n c
 | 0,c,h,j,h1,h2=>by omega
 | d+1,c,h,j,h1,h2=>by
  rw [q9 (by omega)];rcases Nat.eq_or_lt_of_le h1 with rfl | h1
  ·omega
  ·have:=JH d (c+1) (by omega) j h1 h2;omega
theorem PG : ∀ (d c : Nat), n - c = d → c ≤ n → lw G n c = 0 ∨ ∃ j, c ≤ j ∧ j < n ∧ iB G n j = lw G n c
  | 0, c, h, hc => by obtain rfl : c = n := by omega
                      exact .inl yJ
  | d + 1, c, h, hc => by
    rw [q9 (by omega)]
    have hp := Pv (G := G) (n := n) (k := c) (by omega)
    rcases Nat.le_total (lw G n (c + 1)) (iB G n c) with q | q
    · exact .inr ⟨c, by omega, by omega, by omega⟩
    · rcases PG d (c + 1) (by omega) (by omega) with e | ⟨j, h1, h2, h3⟩
      · omega
      · exact .inr ⟨j, by omega, h2, by omega⟩
def MZ (G:Nat→Nat→Bool)(last:Option Nat)(i:Nat):Bool:=last.all fun k=>G k i
def mE (G:Nat→Nat→Bool)(n:Nat):List Nat→Option Nat→Nat→List Nat
 | [],_,_=>[]
 | i::r,last,left=>if left=0 then [] else if iB G n i=left∧MZ G last i=true then i::mE G n r (some i) (left - 1) else mE G n r last left
def oL (G:Nat→Nat→Bool)(n:Nat):List Nat:=mE G n (List.range n) none (lw G n 0)
theorem xL {l:List Nat} {last:Option Nat}:mE G n l last 0=[]:=by cases l <;> simp [mE]
def OW (G:Nat→Nat→Bool)(n:Nat):Option Nat→List Nat→Prop
 | _,[]=>True
 | last,i::r=>i<n∧(∀k,last=some k→k<i∧G k i=true)∧OW G n (some i) r
theorem OW.len: ∀ {r:List Nat} {i:Nat} {last:Option Nat},OW G n last (i::r)→r.length+1≤iB G n i
 | [],i,_,h=>Pv h.1
 | j::r,i,_,h=>by
  obtain⟨h1,_,h3⟩:=h;have h4:=OW.len h3;obtain⟨h5,h6,_⟩:=h3;obtain⟨h7,h8⟩:=h6 i rfl;have:=SB h7 h5 h8;simp only [List.length_cons];omega
def MW (G:Nat→Nat→Bool)(n c:Nat)(last:Option Nat)(left:Nat):Prop:=left=0∨ ∃j,c≤j∧j<n∧iB G n j=left∧MZ G last j=true
theorem MW.next {c:Nat} {last:Option Nat} {left:Nat} (h:MW G n c last left)(hn: ¬(iB G n c=left∧MZ G last c=true))(hl:left≠0):MW G n (c+1) last left:=by
 rcases h with h | ⟨j,h1,h2,h3⟩
 ·exact absurd h hl
 ·rcases Nat.eq_or_lt_of_le h1 with rfl | h1
  ·exact absurd h3 hn
  ·exact .inr ⟨j,h1,h2,h3⟩
theorem MW.pick {c left:Nat} (hc:c<n)(h:iB G n c=left):MW G n (c+1) (some c) (left - 1):=by
 rcases SA (G:=G) hc with q | ⟨j,h1,h2,h3,h4⟩
 ·exact .inl (by omega)
 ·exact .inr ⟨j,h1,h2,by omega,by simpa [MZ] using h3⟩
theorem MW.start:MW G n 0 none (lw G n 0):=by
 rcases PG (G:=G) n 0 rfl (by omega) with h | ⟨j,h1,h2,h3⟩
 ·exact .inl h
 ·exact .inr ⟨j,h1,h2,h3,rfl⟩
def lexB:List Nat→List Nat→Bool
 | a::r,b::q=>if a≠b then decide (a<b) else lexB r q
 | _,_=>false
theorem xK: ∀(d c:Nat) (last:Option Nat) (left:Nat),n - c=d→(∀k,last=some k→k<c)→MW G n c last left→
  OW G n last (mE G n ((List.range n).drop c) last left)∧(∀j∈mE G n ((List.range n).drop c) last left,c≤j∧j<n)∧(mE G n ((List.range n).drop c) last left).length=left∧
  ((∀j,c≤j→j<n→MZ G last j=true→iB G n j≤left)→ ∀J,OW G n last J→(∀j,J.head? =some j→c≤j)→J.length=left→lexB J (mE G n ((List.range n).drop c) last left)=false)
 | 0,c,last,left,hd,hl,hE=>by
  rcases hE with rfl | ⟨j,h1,h2,_⟩
  ·rw [xL];exact⟨trivial,by simp,rfl,fun _ J _ _ hJ=>by rw [List.length_eq_zero_iff.1 hJ];rfl⟩
  ·omega
 | d+1,c,last,left,hd,hl,hE=>by
  have hc:c<n:=by omega
  rw [sK hc,mE];by_cases h0:left=0
  ·rw [if_pos h0];subst h0;exact⟨trivial,by simp,rfl,fun _ J _ _ hJ=>by rw [List.length_eq_zero_iff.1 hJ];rfl⟩
  rw [if_neg h0];by_cases hp:iB G n c=left∧MZ G last c=true
  ·rw [if_pos hp];obtain⟨q1,q2,q3,q4⟩:=xK d (c+1) (some c) (left - 1) (by omega) (fun k e=>by cases e;omega) (MW.pick hc hp.1);refine⟨⟨hc,fun k e=>⟨hl k e,?_⟩,q1⟩,?_,by simp [q3];omega,?_⟩
   ·have:=hp.2;rw [e] at this;simpa [MZ] using this
   ·intro j hj;rcases List.mem_cons.1 hj with rfl | hj
    ·omega
    ·have:=q2 j hj;omega
   ·intro hb J hJ hh hlen
    cases J with
    | nil=>rfl
    | cons j r=>
     have hj:=hh j rfl;rw [lexB];by_cases e:j=c
     ·subst e;rw [if_neg (by simp)];obtain⟨_,_,h3⟩:=hJ;refine q4 (fun k h1 h2 h4=> ?_) r h3 ?_ (by simp at hlen;omega)
      ·have:=SB (G:=G) (k:=j) (j:=k) (by omega) h2 (by simpa [MZ] using h4);omega
      ·intro k hk
       cases r with
       | nil=>simp at hk
       | cons k' r=>
        simp at hk;subst hk;exact (h3.2.1 j rfl).1
     ·rw [if_pos e];simp;omega
  ·rw [if_neg hp];obtain⟨q1,q2,q3,q4⟩:=xK d (c+1) last left (by omega) (fun k e=>by have:=hl k e;omega) (hE.next hp h0);refine⟨q1,fun j hj=>by have:=q2 j hj;omega,q3,?_⟩;intro hb J hJ hh hlen;refine q4 (fun j h1 h2 h3=>hb j (by omega) h2 h3) J hJ ?_ hlen;intro j hj;have h1:=hh j hj;rcases Nat.eq_or_lt_of_le h1 with rfl | h1
   ·exfalso
    cases J with
    | nil=>simp at hj
    | cons k r=>
     simp at hj;subst hj;have h5:=OW.len hJ;have h6:MZ G last k=true:=by
      cases last with
      | none=>rfl
      | some m=>simpa [MZ] using (hJ.2.1 m rfl).2
     have h7:=hb k (by omega) hc h6;simp at hlen;exact hp ⟨by omega,h6⟩
   ·exact h1
theorem qZ:OW G n none (oL G n)∧(∀j∈oL G n,j<n)∧(oL G n).length=lw G n 0∧ ∀J,OW G n none J→J.length≤(oL G n).length∧(J.length=(oL G n).length→lexB J (oL G n)=false):=by
 obtain⟨q1,q2,q3,q4⟩:=xK (G:=G) n 0 none (lw G n 0) rfl (fun k e=>by cases e) MW.start;simp only [List.drop_zero] at q1 q2 q3 q4;refine⟨q1,fun j hj=>(q2 j hj).2,q3,fun J hJ=>⟨?_,fun e=> ?_⟩⟩
 ·rw [oL,q3]
  cases J with
  | nil=>simp
  | cons j r=>
   have h1:=hJ.len;have h2:=JH (G:=G) (n:=n) n 0 rfl j (by omega) hJ.1;simp;omega
 ·rw [oL,q3] at e;exact q4 (fun j h1 h2 h3=>JH (G:=G) n 0 rfl j (by omega) h2) J hJ (fun _ _=>by omega) e
theorem OW.asc: ∀ {l:List Nat} {last:Option Nat},OW G n last l→l.Pairwise (· < ·)∧ ∀k,last=some k→ ∀j∈l,k<j
 | [],_,_=>⟨.nil,by simp⟩
 | i::r,last,h=>by
  obtain⟨h1,h2,h3⟩:=h;obtain⟨q1,q2⟩:=OW.asc h3;refine⟨List.pairwise_cons.2 ⟨fun j hj=>q2 i rfl j hj,q1⟩,fun k e j hj=> ?_⟩;have:=(h2 k e).1;rcases List.mem_cons.1 hj with rfl | hj
  ·exact this
  ·have:=q2 i rfl j hj;omega
where asc_len: ∀(l:List Nat),l.Pairwise (· < ·)→ ∀ {c n:Nat},(∀j∈l,c≤j∧j<n)→l.length≤n - c
 | [],_,_,_,_=>by simp
 | i::r,h,c,n,hr=>by
  obtain⟨h1,h2⟩:=List.pairwise_cons.1 h;have:=asc_len r h2 (c:=i+1) (n:=n) fun j hj=>⟨h1 j hj,(hr j (by simp [hj])).2⟩;have:=hr i (by simp);simp;omega
end
def bB (n:Nat):List AV:=[.int .i64 n]
@[simp] theorem X4 (n:Nat):(bB n).length=1:=rfl
@[simp] theorem WS (n:Nat):(bB n).tail=[]:=rfl
def fe (v:bv)(a b:aC):Bool:=tJ v a.point b.point a.time b.time
def gL (v:bv)(l:List aC)(i j:Nat):Bool:=match l[i]?,l[j]? with
 | some a,some b=>fe v a b
 | _,_=>false
theorem Pk {v:bv} {l:List aC} {i j:Nat} {a b:aC} (ha:l[i]? =some a)(hb:l[j]? =some b):gL v l i j=fe v a b:=by rw [gL,ha,hb]
def wD (G:Nat→Nat→Bool)(i j:Nat):List Nat:=(List.range j).filter (G i)
theorem Ha (G:Nat→Nat→Bool)(i j:Nat):wD G i (j+1)=if G i j=true then wD G i j++[j] else wD G i j:=by
 rw [wD,List.range_succ,List.filter_append,wD];by_cases c:G i j=true
 ·rw [if_pos c,List.filter_cons_of_pos c];rfl
 ·rw [if_neg c,List.filter_cons_of_neg c];simp
theorem KV (G:Nat→Nat→Bool)(i j:Nat):(wD G i j).length≤j:=by
 have:=List.length_filter_le (G i) (List.range j);rwa [List.length_range] at this
def Jj (v:bv):List aC→Bool
 | a::b::r=>fe v a b && Jj v (b::r)
 | _=>true
def Y7 (v:bv)(a b:Bytes):Option Int:=if a=b then some 0 else match jf v a b with
 | some (p,_)=>some (bN v p).2.1
 | none=>none
def Xo (v:bv)(a b:aC)(g:Int):Bool:=match Y7 v a.point b.point with
 | some n=>decide (n+g<b.time - a.time)
 | none=>true
def Xt (v:bv)(l:List aC)(g:Int)(i:Nat):Bool:=match i with
 | 0=>true
 | i+1=>match l[i]?,l[i+1]? with
  | some a,some b=>Xo v a b g
  | _,_=>true
def Al (L:List (List aC))(new:Bool)(p:aC):List (List aC):=if new=true then L++[[p]] else L.dropLast++[L.getLastD []++[p]]
def vw (v:bv)(l:List aC)(g:Int):Nat→List (List aC)
 | 0=>[]
 | i+1=>match l[i]? with
  | some p=>Al (vw v l g i) (Xt v l g i) p
  | none=>vw v l g i
theorem Ow {v:bv} {l:List aC} {g:Int} {i:Nat} {p:aC} (h:l[i]? =some p):vw v l g (i+1)=Al (vw v l g i) (Xt v l g i) p:=by rw [vw,h]
theorem Ou (L:List (List aC))(b:Bool)(p:aC):(Al L b p).length≤L.length+1:=by
 unfold Al;split
 ·simp
 ·simp
theorem Rf {v:bv} {l:List aC} {g:Int}: ∀i:Nat,(vw v l g i).length≤i
 | 0=>by simp [vw]
 | i+1=>by
  rw [vw];have:=Rf (v:=v) (l:=l) (g:=g) i;split
  ·rename_i p _;have h2:=Ou (vw v l g i) (Xt v l g i) p;omega
  ·omega
theorem TV (L:List (List aC))(b:Bool)(p:aC):(Al L b p).flatten=L.flatten++[p]:=by
 unfold Al;split
 ·simp
 ·rcases List.eq_nil_or_concat L with rfl | ⟨M,x,rfl⟩
  ·rfl
  ·simp
theorem Ov {v:bv} {l:List aC} {g:Int}: ∀i:Nat,i≤l.length→(vw v l g i).flatten=l.take i
 | 0,_=>by simp [vw]
 | i+1,h=>by
  obtain⟨p,hp⟩: ∃p,l[i]? =some p:=⟨_,zB (by omega)⟩;rw [Ow hp,TV,Ov i (by omega),zM,hp];rfl
structure fI where
 id:Bytes
 why:Int
deriving DecidableEq
def aM (x:fI):List AV:=[.str x.id,.int .i64 x.why]
@[simp] theorem WQ (x:fI):(aM x).length=2:=rfl
def uK (I:List Nat)(l:List aC)(i:Nat):List aC:=((List.range i).filter fun j=>decide (j∈I)).filterMap fun j=>l[j]?
def kZ (I:List Nat)(l:List aC)(i:Nat):List fI:=((List.range i).filter fun j=> !decide (j∈I)).filterMap fun j=>(l[j]?).map fun p=>⟨p.id,9⟩
theorem yC {I:List Nat} {l:List aC} {i:Nat} {p:aC} (h:l[i]? =some p):uK I l (i+1)=if i∈I then uK I l i++[p] else uK I l i:=by
 rw [uK,List.range_succ,List.filter_append,List.filterMap_append,←uK];by_cases c:i∈I
 ·rw [if_pos c,List.filter_cons_of_pos (by simpa using c)];simp [h]
 ·rw [if_neg c,List.filter_cons_of_neg (by simpa using c)];simp
theorem Ae {I:List Nat} {l:List aC} {i:Nat} {p:aC} (h:l[i]? =some p):kZ I l (i+1)=if i∈I then kZ I l i else kZ I l i++[⟨p.id,9⟩]:=by
 rw [kZ,List.range_succ,List.filter_append,List.filterMap_append,←kZ];by_cases c:i∈I
 ·rw [if_pos c,List.filter_cons_of_neg (by simpa using c)];simp
 ·rw [if_neg c,List.filter_cons_of_pos (by simpa using c)];simp [h]
theorem rW (I:List Nat)(l:List aC)(i:Nat):(uK I l i).length≤i:=by
 refine Nat.le_trans (List.length_filterMap_le _ _) ?_;have:=List.length_filter_le (fun j=>decide (j∈I)) (List.range i);rwa [List.length_range] at this
theorem uV (I:List Nat)(l:List aC)(i:Nat):(kZ I l i).length≤i:=by
 refine Nat.le_trans (List.length_filterMap_le _ _) ?_;have:=List.length_filter_le (fun j=> !decide (j∈I)) (List.range i);rwa [List.length_range] at this
theorem Jt {I:List Nat} {l:List aC} {i:Nat} {p:aC} (h:p∈uK I l i):p∈l:=by
 obtain⟨j,_,hj⟩:=List.mem_filterMap.1 h;exact zF hj
def jH (I:List Nat)(i:Nat):List Nat:=I.filter fun j=>decide (i≤j)
theorem oP (I:List Nat):jH I 0=I:=by simp [jH]
theorem kD: ∀ {I:List Nat} {i:Nat},I.Pairwise (· < ·)→jH I i=if i∈I then i::jH I (i+1) else jH I (i+1)
 | [],i,_=>by simp [jH]
 | j::r,i,h=>by
  obtain⟨h1,h2⟩:=List.pairwise_cons.1 h;have ih:=kD (i:=i) h2;unfold jH at ih ⊢;rcases Nat.lt_trichotomy j i with q | q | q
  ·rw [List.filter_cons_of_neg (by simp;omega),List.filter_cons_of_neg (by simp;omega),ih];have:i∈j::r↔i∈r:=by simp;omega
   simp only [this]
  ·subst q;rw [List.filter_cons_of_pos (by simp),List.filter_cons_of_neg (by simp),if_pos (by simp),ih];have hn:j∉r:=fun c=>by have:=h1 j c;omega
   rw [if_neg hn]
  ·rw [List.filter_cons_of_pos (by simp;omega),List.filter_cons_of_pos (by simp;omega),ih];have hn:i∉r:=fun c=>by have:=h1 i c;omega
   rw [if_neg hn,if_neg (by simp;exact⟨by omega,hn⟩)]
theorem Rb {I:List Nat} {i j:Nat} (h:j∈jH I i):j∈I:=(List.mem_filter.1 h).1
theorem EO {I:List Nat} {i:Nat} (h:I.Pairwise (· < ·)):(∃r,jH I i=i::r)↔i∈I:=by
 constructor
 ·rintro⟨r,e⟩;exact Rb (i:=i) (by rw [e];simp)
 ·intro c;exact⟨_,by rw [kD h,if_pos c]⟩
theorem Hf {I:List Nat} {l:List aC} (h:I.Pairwise (· < ·))(hl: ∀j∈I,j<l.length): ∀i:Nat,i≤l.length→(uK I l i).length+(jH I i).length=I.length
 | 0,_=>by rw [oP];simp [uK]
 | i+1,hi=>by
  obtain⟨p,hp⟩: ∃p,l[i]? =some p:=⟨_,zB (by omega)⟩;have ih:=Hf h hl i (by omega);rw [kD h] at ih;rw [yC hp];by_cases c:i∈I
  ·rw [if_pos c] at ih ⊢;simp at ih ⊢;omega
  ·rw [if_neg c] at ih ⊢;exact ih
theorem Iu {I:List Nat} (h:I.Pairwise (· < ·)): ∀ {i:Nat},∃k,jH I i=I.drop k∧(jH I i).length+k=I.length
 | 0=>⟨0,by rw [oP];simp,by rw [oP];simp⟩
 | i+1=>by
  obtain⟨k,e,hk⟩:=Iu h (i:=i);have hs:=kD (i:=i) h;by_cases c:i∈I
  ·rw [if_pos c] at hs;rw [hs] at e hk;refine⟨k+1,?_,by simp at hk;omega⟩;rw [←List.drop_drop,←e];rfl
  ·rw [if_neg c] at hs;rw [←hs];exact⟨k,e,hk⟩
theorem R6 {I:List Nat} {l:List aC} (h:I.Pairwise (· < ·))(hl: ∀j∈I,j<l.length) {i:Nat} (hi:i≤l.length):I[(uK I l i).length]? =(jH I i)[0]? :=by
 obtain⟨k,e,hk⟩:=Iu h (i:=i);have:=Hf h hl i hi;rw [e,List.getElem?_drop,Nat.add_zero,show (uK I l i).length=k by omega]
end Go.Toll
end
section
namespace Go.Toll
open Go Go.Abs
def dZ (l:List aC):List aC:=aT (fun a b=>decide (uu a b<0)) l
def Bp (S:List aC)(i:Nat)(p:aC):Bool:=(S.take i).any fun q=>decide (q.id=p.id)
def fQ (S:List aC):Nat→List aC
 | 0=>[]
 | i+1=>match S[i]? with
  | some p=>if Bp S i p=true then fQ S i else fQ S i++[p]
  | none=>fQ S i
def bO (l:List aC):List aC:=fQ (dZ l) (dZ l).length
theorem Eo {S:List aC} {i:Nat} {p:aC} (h:S[i]? =some p):fQ S (i+1)=if Bp S i p=true then fQ S i else fQ S i++[p]:=by rw [fQ,h]
theorem ru (S:List aC): ∀i:Nat,(fQ S i).length≤i
 | 0=>by simp [fQ]
 | i+1=>by
  have ih:=ru S i;rw [fQ];split
  ·split
   ·omega
   ·simp;omega
  ·omega
theorem lN {S:List aC}: ∀ {i:Nat} {p:aC},p∈fQ S i→p∈S.take i
 | 0,p,h=>by simp [fQ] at h
 | i+1,p,h=>by
  rw [fQ] at h;split at h
  ·rename_i q hq;have hm: ∀x,x∈S.take i→x∈S.take (i+1):=fun x hx=>by rw [zM];exact List.mem_append_left _ hx
   split at h
   ·exact hm _ (lN h)
   ·rcases List.mem_append.1 h with h | h
    ·exact hm _ (lN h)
    ·obtain rfl:=List.mem_singleton.1 h;rw [zM,hq];simp
  ·rw [zM];exact List.mem_append_left _ (lN h)
theorem xJ {S:List aC} {p:aC}: ∀i:Nat,(fQ S i).any (fun q=>decide (q.id=p.id))=Bp S i p
 | 0=>by simp [fQ,Bp]
 | i+1=>by
  have ih:=xJ (S:=S) (p:=p) i;unfold Bp at*;rw [fQ,zM,List.any_append]
  cases hq:S[i]? with
  | none=>simp [ih]
  | some q=>
   simp only [Option.toList_some];split
   ·rename_i h;rw [ih];by_cases c:q.id=p.id
    ·have:(S.take i).any (fun x=>decide (x.id=p.id))=true:=by rw [←c];exact h
     rw [this];rfl
    ·simp [c]
   ·rw [List.any_append,ih]
theorem LH {S:List aC}: ∀i:Nat,((fQ S i).map (·.id)).Nodup
 | 0=>by simp [fQ]
 | i+1=>by
  have ih:=LH (S:=S) i;rw [fQ];split
  ·rename_i q hq;split
   ·exact ih
   ·rename_i h;rw [←xJ,Bool.not_eq_true,List.any_eq_false] at h;rw [List.map_append,List.nodup_append];refine⟨ih,by simp,fun a ha b hb=> ?_⟩;obtain⟨x,hx,rfl⟩:=List.mem_map.1 ha;simp at hb;subst hb;have:=h x hx;simpa using this
  ·exact ih
theorem pR {α:Type} {lt:α→α→Bool} (o:SWO lt) {x:α} {l:List α} (hs:qz lt l) {k:Nat} (hk:k≤l.length)(h1: ∀i y,i<k→l[i]? =some y→lt x y=false)(h2: ∀y,l[k]? =some y→lt x y=true):gV lt x l=l.take k++x::l.drop k:=by
 obtain⟨g1,g2,g3⟩:=zX o x l hs l.length (Nat.le_refl _);have e:gz lt x l l.length=k:=by
  rcases Nat.lt_trichotomy (gz lt x l l.length) k with q | q | q
  ·obtain⟨y,hy,_⟩:=aN (l:=l) (i:=gz lt x l l.length) (by omega);have a:=g3 _ y (Nat.le_refl _) (by omega) hy;rw [h1 _ y q hy] at a;cases a
  ·exact q
  ·obtain⟨y,hy,_⟩:=aN (l:=l) (i:=k) (by omega);have a:=g2 _ y q hy;rw [h2 y hy] at a;cases a
 rw [gV,e]
theorem Ch (a b:Bytes):jb a b=Lib.compareBytes a b:=by
 unfold jb;have h1:=ma a b;have h2:=gD a b;have h3:=zy a b;split
 ·rename_i h;exact (h1.2 h).symm
 ·rename_i h;have h0:Lib.compareBytes a b≠0:=fun e=>h (h1.1 e);split
  ·rename_i hl;rw [hl] at h2;have:=of_decide_eq_true h2;omega
  ·rename_i hl;rw [Bool.not_eq_true] at hl;rw [hl] at h2;have:=of_decide_eq_false h2;omega
theorem ji (a b:Int):dE [a,b]=if a=0 then (if b=0 then 0 else b) else a:=by
 simp only [dE];by_cases h1:a=0 <;> by_cases h2:b=0 <;> simp [h1,h2]
def Y2 (x:List AV):Bytes:=strOf (x.getD 0 .junk)
def MC (x:List AV):Int:=match x.getD 4 .junk with
 | .ro (e::_)=>intOf (e.getD 1 .junk)
 | _=>0
def zf (x y:List AV):Int:=dE [iF (MC x) (MC y),jb (Y2 x) (Y2 y)]
def YZ (x y:List AV):Int:=jb (Y2 x) (Y2 y)
theorem NW:iV zf:=by
 have:=(Ep.comap MC).lex ((oO.comap Y2).lex sw);refine Eq.mp (congrArg iV ?_) this;funext x y
 rw [zf,ji,Ch];rfl
def iQ (x:dB):Int:=(x.stops.headD ⟨[],0,[]⟩).time
def jS (x y:dB):Int:=dE [iF (iQ x) (iQ y),jb x.id y.id]
theorem IP {x:dB} (h:x.stops≠[]):MC (aH x)=iQ x:=by
 obtain⟨a,l,hl⟩:=List.exists_cons_of_ne_nil h;simp [MC,aH,iQ,hl,aa,intOf]
theorem IQ {x y:dB} (hx:x.stops≠[])(hy:y.stops≠[]):zf (aH x) (aH y)=jS x y:=by rw [zf,IP hx,IP hy];rfl
def Db (x y:fI):Int:=jb x.id y.id
def bP (l:List dB):List dB:=aT (fun x y=>decide (jS x y<0)) l
def mW (l:List fI):List fI:=aT (fun x y=>decide (Db x y<0)) l
theorem lS:iV jS:=by
 have:=(Ep.comap iQ).lex ((oO.comap dB.id).lex sw);refine Eq.mp (congrArg iV ?_) this;funext x y
 rw [jS,ji,Ch];rfl
theorem NU:iV Db:=by
 refine Eq.mp (congrArg iV ?_) (oO.comap fI.id);funext x y
 rw [Db,Ch]
structure dG where
 trips:List dB
 out:List fI
 opn:List bq
 before:Bytes
 last:Bytes
def dV (why:Int)(l:List bq):List fI:=(l.filter VU).map fun s=>⟨s.pass,why⟩
theorem Du {why:Int} {l:List bq} {i:Nat} {s:bq} (h:l[i]? =some s):dV why (l.take (i+1))=if s.pass=[] then dV why (l.take i) else dV why (l.take i)++[⟨s.pass,why⟩]:=by
 rw [zM,h];by_cases c:s.pass=[] <;> simp [dV,VU,c]
theorem fH (why:Int)(l:List bq):(dV why l).length≤l.length:=by rw [dV,List.length_map];exact List.length_filter_le _ _
def jc (l:List Int)(c:Int):Nat:=(l.filter fun n=>decide (n=c)).length
def kL (l:List Int):Nat→Int
 | 0=>0
 | k+1=>if 0<jc l (k+1:Nat)∧(kL l k=0∨jc l (kL l k)<jc l (k+1:Nat)) then ((k+1:Nat):Int) else kL l k
def BM (l:List Int):Int:=kL l 9
def iC (t:bn)(veh:Bytes)(cls:Bytes→Int)(l:List bq)(before:Bytes):dB:=
 let a:=l.headD ⟨[],0,[]⟩
 let id:=(bg l).headD []
 ⟨if id=[] then before++[43]++a.point else id,veh,jU t a.point,max (BM ((bg l).map cls)) 1,l⟩
def sameB (t:bn)(opn:List bq)(s:bq):Bool:=match opn with
 | []=>false
 | a::_=>decide (jU t a.point=jU t s.point)
def qL (t:bn)(opn:List bq)(s:bq):Bool:=match opn with
 | []=>false
 | a::_=>decide (jU t a.point=jU t s.point) && decide (s.time - a.time≤mh t a.point)
def jI (t:bn)(opn:List bq)(s:bq):Nat:=
 if kindOf t s.point=1 then 0 else if kindOf t s.point=2 then 1
 else if kindOf t s.point=3 then (if qL t opn s=true then 2 else 4)
 else if opn≠[]∧((eu t s.point).isSome=false∨sameB t opn s=true) then 3 else 5
def jJ (t:bn)(veh:Bytes)(cls:Bytes→Int)(w:dG)(s:bq):dG:=match jI t w.opn s with
 | 0=> { w with trips:=w.trips++[iC t veh cls [s] w.last] }
 | 1=> { w with out:=w.out++dV 11 w.opn,opn:=[s],before:=w.last }
 | 2=> { w with trips:=w.trips++[iC t veh cls (w.opn++[s]) w.before],opn:=[] }
 | 3=> { w with opn:=w.opn++[s] }
 | 4=> { w with out:=w.out++dV 11 w.opn++dV 10 [s],opn:=[] }
 | _=> { w with out:=w.out++dV 12 [s] }
def dA (t:bn)(veh:Bytes)(cls:Bytes→Int)(w:dG)(s:bq):dG:=
 if s.pass=[] then jJ t veh cls w s else { jJ t veh cls w s with last:=s.pass }
def wK (w:dG):dG:= { w with out:=w.out++dV 11 w.opn,opn:=[] }
def fG (t:bn)(l:List aC):List fI:=(l.filter fun p=>decide (kindOf t p.point=0)).map fun p=>⟨p.id,3⟩
def aX (t:bn)(l:List aC):List aC:=l.filter fun p=> !decide (kindOf t p.point=0)
def dQ (t:bn)(l:List aC)(others:List fI):dG:=⟨[],fG t l++others,[],[],[]⟩
def Ca (t:bn)(veh:Bytes)(cls:Bytes→Int)(w:dG)(stops:List bq):dG:=wK (stops.foldl (dA t veh cls) w)
def encZ' (n:Int):AV:= .int .i64 n
def jO (t:bn)(veh:Bytes)(mb:Nat)(tr ou op:AV)(before last:Bytes):List AV:=
 [.ro (t.net.pts.map aZ),.ro (t.net.lks.map jF),.ro (t.sys.map dH),.str veh,.map mb,tr,ou,op,.str before,.str last]
@[simp] theorem ZB (t:bn) (veh:Bytes) (mb:Nat) (tr ou op:AV) (before last:Bytes):(jO t veh mb tr ou op before last).length=10:=rfl
structure xZ (t:bn)(veh:Bytes)(mb:Nat)(m:List (Bytes×Int))(b lo:Nat)(H:ak)(tr ou op:AV)(w:dG):Prop where
 blk:H[b]? =some (.cells 10 [jO t veh mb tr ou op w.before w.last])
 mp:H[mb]? =some (.map (sM encZ' m))
 trips:Ls 5 lo H tr (w.trips.map aH)
 out:Ls 2 lo H ou (w.out.map aM)
 low:lo≤b
 lom:lo≤mb
structure qA (lo:Nat)(H H':ak):Prop where
 base: ∀h0:ak,h0.length≤lo→(∃g,H=h0++g)→ ∃g,H'=h0++g
 stops: ∀(k:Nat) (es:List (List AV)),H[k]? =some (.cells 3 es)→H'[k]? =some (.cells 3 es)
theorem qA.refl (lo:Nat)(H:ak):qA lo H H:=⟨fun _ _ h=>h,fun _ _ h=>h⟩
theorem qA.trans {lo:Nat} {H H' H'':ak} (a:qA lo H H')(b:qA lo H' H''):qA lo H H'':=⟨fun h0 hl hb=>b.base h0 hl (a.base h0 hl hb),fun k es hk=>b.stops k es (a.stops k es hk)⟩
theorem qA.more {lo:Nat} {H H':ak} (a:qA lo H H')(g:ak):qA lo H (H'++g):=
 ⟨fun h0 hl hb=>aF (a.base h0 hl hb) g,fun k es hk=>aJ (a.stops k es hk) g⟩
theorem qA.set {lo:Nat} {H H':ak} (a:qA lo H H') {b n:Nat} {es:List (List AV)} (hb:H'[b]? =some (.cells n es))(hn:n≠3)(hl:lo≤b)(o:cZ):qA lo H (H'.set b o):=
 ⟨fun h0 h1 hg=>cu (a.base h0 h1 hg) (by omega) o,fun k es' hk=>by
  have h1:=a.stops k es' hk;by_cases e:k=b
  ·subst e;rw [hb] at h1;injection h1 with h1;injection h1 with h1 _;exact absurd h1 hn
  ·rw [zJ (fun c=>e c.symm)];exact h1⟩
theorem qA.grow {lo n:Nat} {H H' H'':ak} {x:AV} {es:List (List AV)} (a:qA lo H H')(hx:Ls n lo H' x es)(hn:n≠3)(g:Grow lo H' x H''):qA lo H H'':=
 ⟨fun h0 h1 hg=>g.base h0 h1 (a.base h0 h1 hg),fun k es' hk=>by
  have h1:=a.stops k es' hk;refine g.keep k _ h1 fun off len e=> ?_;rcases hx.1 with⟨e1,_⟩ | ⟨b,e1,_,hb⟩
  ·rw [e1] at e;cases e
  ·rw [e1] at e;injection e with e2;subst e2;rw [hb] at h1;injection h1 with h1;injection h1 with h1 _;exact absurd h1 hn⟩
theorem qA.ls {lo lo':Nat} {H H':ak} (a:qA lo H H') {x:AV} {es:List (List AV)} (hx:Ls 3 lo' H x es):Ls 3 lo' H' x es:=by
 obtain⟨h1,h2⟩:=hx;refine⟨?_,h2⟩;rcases h1 with h1 | ⟨b,e,hl,hb⟩
 ·exact .inl h1
 ·exact .inr ⟨b,e,hl,a.stops b _ hb⟩
theorem qA.rs {lo:Nat} {H H':ak} (a:qA lo H H') {x:AV} {es:List (List AV)} (hx:Rs 3 H x es):Rs 3 H' x es:=by
 rcases hx with⟨rfl | ⟨b,off,all,rfl,hb,he⟩,hn⟩ | hr
 ·exact .inl ⟨.inl rfl,hn⟩
 ·exact .inl ⟨.inr ⟨b,off,all,rfl,a.stops b _ hb,he⟩,hn⟩
 ·exact .inr hr
theorem oM {n m lo:Nat} {H:ak} {x:AV} {es:List (List AV)} {b:Nat} {es':List (List AV)} (hx:Ls n lo H x es)(hb:H[b]? =some (.cells m es'))(hnm:m≠n): ∀off len,x≠ .own b off len:=by
 intro off len e;rcases hx.1 with⟨e1,_⟩ | ⟨b',e1,_,hb'⟩
 ·rw [e1] at e;cases e
 ·rw [e1] at e;injection e with e2;subst e2;rw [hb] at hb';injection hb' with h1;injection h1 with h1 _;exact hnm h1
theorem lL {n lo:Nat} {H:ak} {x:AV} {es:List (List AV)} {b:Nat} {kv:List (AV×AV)} (hx:Ls n lo H x es)(hb:H[b]? =some (.map kv)): ∀off len,x≠ .own b off len:=by
 intro off len e;rcases hx.1 with⟨e1,_⟩ | ⟨b',e1,_,hb'⟩
 ·rw [e1] at e;cases e
 ·rw [e1] at e;injection e with e2;subst e2;rw [hb] at hb';cases hb'
theorem gM {n m lo:Nat} {H:ak} {x:AV} {es:List (List AV)} {b:Nat} {es':List (List AV)} (hx:Ls n lo H x es)(hb:H[b]? =some (.cells m es'))(hnm:m≠n)(o:cZ):Ls n lo (H.set b o) x es:=by
 obtain⟨h1,h2⟩:=hx;refine⟨?_,h2⟩;rcases h1 with h1 | ⟨b',e,hl,hb'⟩
 ·exact .inl h1
 ·refine .inr ⟨b',e,hl,?_⟩;have:b≠b':=by
   rintro rfl;rw [hb] at hb';injection hb' with h1;injection h1 with h1 _;exact hnm h1
  rw [zJ this];exact hb'
theorem get_put {H:ak} {b k:Nat} {o o' p:cZ} (hb:H[b]? =some o)(hk:H[k]? =some o')(hne:b≠k):(H.set b p)[k]? =some o':=by
 rw [zJ hne];exact hk
theorem fO {n m lo lo':Nat} {H H':ak} {x y:AV} {es es':List (List AV)} (hx:Ls n lo H x es)(hy:Ls m lo' H y es')(hnm:n≠m)(g:Grow lo' H y H'):Ls n lo H' x es:=by
 obtain⟨h1,h2⟩:=hx;refine⟨?_,h2⟩;rcases h1 with h1 | ⟨b,e,hl,hb⟩
 ·exact .inl h1
 ·exact .inr ⟨b,e,hl,g.keep b _ hb (oM hy hb hnm)⟩
theorem Xp {n m:Nat} {H:ak} {b k:Nat} {es es':List (List AV)} (hb:H[b]? =some (.cells n es))(hk:H[k]? =some (.cells m es'))(hnm:n≠m):b≠k:=by
 rintro rfl;rw [hb] at hk;injection hk with h1;injection h1 with h1 _;exact hnm h1
theorem pV {n:Nat} {H:ak} {b k:Nat} {es:List (List AV)} {kv:List (AV×AV)} (hb:H[b]? =some (.cells n es))(hk:H[k]? =some (.map kv)):b≠k:=by
 rintro rfl;rw [hb] at hk;cases hk
theorem xZ.more {t:bn} {veh:Bytes} {mb:Nat} {m:List (Bytes×Int)} {b lo:Nat} {H:ak} {tr ou op:AV} {w:dG} (h:xZ t veh mb m b lo H tr ou op w)(g:ak):xZ t veh mb m b lo (H++g) tr ou op w:=
 ⟨aJ h.blk g,aJ h.mp g,h.trips.more g,h.out.more g,h.low,h.lom⟩
theorem xZ.put {t:bn} {veh:Bytes} {mb:Nat} {m:List (Bytes×Int)} {b lo:Nat} {H:ak} {tr ou op:AV} {w:dG} (h:xZ t veh mb m b lo H tr ou op w)(op':AV) {w':dG} (e1:w'.trips=w.trips)(e2:w'.out=w.out):
  xZ t veh mb m b lo (H.set b (.cells 10 [jO t veh mb tr ou op' w'.before w'.last])) tr ou op' w':=
 ⟨zI (aK h.blk),get_put h.blk h.mp (pV h.blk h.mp),by rw [e1];exact gM h.trips h.blk (by decide) _,by rw [e2];exact gM h.out h.blk (by decide) _,h.low,h.lom⟩
end Go.Toll
end
section
namespace Go.Proofs.YtkpioblbeiaefaaGreat
open Go Go.Abs Go.Toll
variable {gl : aR} {h : ak}
def NN:Nat→Option (List (Nat×Nat)):=fun id=>if id=4 then some [(4,10)] else none
set_option maxHeartbeats 4000000 in
theorem tq (why:Int)(l:List bq)(x:AV) {t:bn} {veh:Bytes} {mb:Nat} {m:List (Bytes×Int)} {b lo:Nat} {tr ou op:AV} {w:dG} (hw:xZ t veh mb m b lo h tr ou op w)(hx:Rs 3 h x (l.map aa))
  (hl:l.length≤100000) (ho:w.out.length≤1000000) (hopf:op.core=op∧op.gd=true∧op.solid=true∧ah op=[op]):af Tryz.prog gl 112 [.ptr b 0 0,.int .i64 why,x] h fun v h'=>v= .tup []∧(∃ou',xZ t veh mb m b lo h' tr ou' op { w with out:=w.out++dV why l })∧qA lo h h':=by
 refine af.bodyL NN Tryz.f112 _ mixed Tryz.func112 rfl rfl (by simp [Tryz.ntmps112]) ?_;have fx:=hx.fix;have lx:=hx.len2;simp [NN,fx,lx];refine aW.upL NN mixed l.length (fun i fr H=>fr 0= .ptr b 0 0∧fr 1= .int .i64 why∧fr 8=x∧fr 9= .int .i64 l.length∧fr 10= .int .i64 i∧(∃ou',xZ t veh mb m b lo H tr ou' op { w with out:=w.out++dV why (l.take i) })∧qA lo h H) 0 (by omega)
  ⟨by simp,by simp,by simp,by simp,by simp,⟨ou,by simpa [dV] using hw⟩,qA.refl _ _⟩ ?_
 rintro i fr H hi ⟨e0,e1,e8,e9,e10,⟨ou',hW⟩,hK⟩;have hxH:=hK.rs hx;have hb3:=at3 hW.blk;simp only [jO] at hb3;have htf:=hW.trips.rs.fix;have hof:=hW.out.rs.fix;have hbl:=hb3.2.1;rcases zN i l.length with hlt | hge
 ·obtain⟨s,hs,hs'⟩:=aN hlt;have ew:=aB (i:=i) (by omega);have hsuc:=Du (why:=why) hs;have hel:=fH why (l.take i);have htl:=List.length_take_le i l;have rx:=Rs.ix Tryz.prog hxH i (by omega) (y:=aa s) (by simp [hs]);have fxH:=hxH.fix;have lxH:=hxH.len2;simp only [aa] at rx;by_cases c:s.pass=[]
  ·rw [if_pos c] at hsuc;simp [NN,e0,e1,e8,e9,e10,hlt,fxH,lxH,rx,c,ew];refine⟨i+1,by omega,by omega,by omega,⟨ou',?_⟩,hK.more _⟩;rw [hsuc];exact⟨aJ hW.blk _,aJ hW.mp _,hW.trips.more _,hW.out.more _,hW.low,hW.lom⟩
  ·rw [if_neg c] at hsuc;have hb3':=at3 (aJ hW.blk [.cells 3 [[.str s.point,.int .i64 s.time,.str s.pass]]]);have hb3'':=at3 (aJ hW.blk [.cells 3 [[.str s.point,.int .i64 s.time,.str s.pass]],.cells 2 [[.str s.pass,.int .i64 why]]]);simp only [jO] at hb3' hb3'';simp [NN,-ae,-ai,-ah,-AV.solid,e0,e1,e8,e9,e10,hlt,fxH,lxH,rx,c,hb3,hb3',hb3'',hof,htf];refine⟨by decide,?_⟩;obtain⟨g,hg⟩: ∃g:ak,g=[.cells 3 [[.str s.point,.int .i64 s.time,.str s.pass]],.cells 2 [[.str s.pass,.int .i64 why]]]:=⟨_,rfl⟩;have hK1:=hK.more g;have hB1:=aJ hW.blk g;have hM1:=aJ hW.mp g;have hT1:=hW.trips.more g;have hO1:=hW.out.more g;have hlo:=hW.low;have hap:bu Tryz.prog (H++g) [33,33] 2 (.own (H.length+1) 0 1) [aM ⟨s.pass,why⟩]:=by rw [hg];simp [bu,aM]
   rw [←hg];refine aG (lo:=lo) (n:=2) (es:=(w.out++dV why (l.take i)).map aM) (ys:=[aM ⟨s.pass,why⟩]) hO1 (by simp;omega) hap (by simp;omega) ?_;intro s1 H1 hs1 hg1 hn1;have hs1f:=hs1.rs.fix;have hb1:=hg1.keep b _ hB1 (oM hO1 hB1 (by decide));have hm1:=hg1.keep mb _ hM1 (lL hO1 hM1);have ht1:=fO hT1 hO1 (by decide) hg1;have hk1:=hK1.grow hO1 (by decide) hg1;have hb13:=at3 hb1;have hbg:=at3 hB1;simp only [jO] at hb13 hbg;simp [NN,-ae,-ai,-ah,-AV.solid,e0,e1,e8,e9,e10,hs1f,hb13,hbg,ew];refine⟨i+1,by omega,by omega,by omega,⟨s1,?_⟩,hk1.set hb1 (by decide) hlo _⟩;rw [hsuc];refine⟨?_,get_put hb1 hm1 (pV hb1 hm1),gM ht1 hb1 (by decide) _,?_,hW.low,hW.lom⟩
   ·rw [zI hb13.2.1];simp [jO]
   ·have:=gM hs1 hb1 (by decide) (.cells 10 [jO t veh mb tr s1 op w.before w.last]);simpa [jO] using this
 ·obtain rfl:i=l.length:=by omega
  rw [List.take_length] at hW;simp [NN,e0,e1,e8,e9,e10];exact⟨⟨ou',hW⟩,hK⟩
set_option maxHeartbeats 1000000 in
theorem wu {t:bn} {veh:Bytes} {mb:Nat} {m:List (Bytes×Int)} {b lo:Nat} {tr ou op:AV} {w:dG} (hw:xZ t veh mb m b lo h tr ou op w)(hop:Ls 3 lo h op (w.opn.map aa))
  (hl:w.opn.length≤100000) (ho:w.out.length≤1000000):af Tryz.prog gl 78 [.ptr b 0 0] h fun v h'=>v= .tup []∧(∃ou',xZ t veh mb m b lo h' tr ou' .nil (wK w))∧qA lo h h':=by
 refine af.body Tryz.f78 _ mixed Tryz.func78 rfl rfl (by simp [Tryz.ntmps78]) ?_;have hof:=hop.rs.fix;have hb3:=at3 hw.blk;simp only [jO] at hb3;simp [-ah,-AV.solid,hb3,hof];refine ay.any (tq 11 w.opn op hw hop.rs hl ho hof) ?_;rintro v h' ⟨rfl,⟨ou',hW⟩,hK⟩;have hb4:=at3 hW.blk;simp only [jO] at hb4;have htf:=hW.trips.rs.fix;have huf:=hW.out.rs.fix;simp [-ah,-AV.solid,hb4,hof,htf,huf];refine⟨⟨ou',?_⟩,hK.set hW.blk (by decide) hW.low _⟩;refine⟨?_,get_put hW.blk hW.mp (pV hW.blk hW.mp),gM hW.trips hW.blk (by decide) _,gM hW.out hW.blk (by decide) _,hW.low,hW.lom⟩;rw [zI hb4.2.1];simp [jO,wK]
def xH:Nat→Option (List (Nat×Nat)):=fun id=>if id=2 then some [(3,11),(5,11),(6,11)] else none
set_option maxHeartbeats 4000000 in
theorem RJ (s:bq) {t:bn} {veh:Bytes} {mb:Nat} {m:List (Bytes×Int)} {b lo:Nat} {tr ou op:AV} {w:dG} (hw:xZ t veh mb m b lo h tr ou op w)(hop:Ls 3 lo h op (w.opn.map aa))
  (hl:w.opn.length≤100000) (hs:0≤s.time∧s.time<68719476736) (hot: ∀x∈w.opn,0≤x.time∧x.time<68719476736) (hp:t.net.pts.length≤1000) (hlk:t.net.lks.length≤1000) (hsy:t.sys.length≤1000):
  af Tryz.prog gl 110 [.ptr b 0 0,.agg (aa s)] h fun v h'=>v= .int .i64 (jI t w.opn s)∧h'=h:=by
 refine af.data (by simp) (af.bodyL xH Tryz.f110 _ mixed Tryz.func110 rfl rfl (by simp [Tryz.ntmps110]) ?_);have hof:=hop.rs.fix;have hol:=hop.rs.len2;have kd:=fun (H:ak) (s:Bytes)=>jV (gl:=gl) (h:=H) t s hp hlk hsy;have sys:=fun (H:ak)=>iR (gl:=gl) (h:=H) t s.point hp hlk hsy;obtain⟨c1,hc1⟩: ∃c1:cZ,c1= .cells 3 [[.str s.point,.int .i64 s.time,.str s.pass]]:=⟨_,rfl⟩;have hb3:=at3 hw.blk;have hb4:=at3 (aJ hw.blk [.cells 3 [[.str s.point,.int .i64 s.time,.str s.pass]]]);simp only [jO] at hb3 hb4;simp [xH,-ah,-AV.solid,aa,hb3,hb4,hof];refine⟨by decide,?_⟩;refine ay.pure _ (fun _=>kd _ s.point) ?_;have e1:jU t s.point=((eu t s.point).getD sys0).name:=rfl;have e3:(eu t s.point).isSome=(eu t s.point).isSome:=rfl;unfold jI;generalize kindOf t s.point=k at*;generalize hy:(eu t s.point).getD sys0=y at*;generalize hz:(eu t s.point).isSome=z at*;simp [xH,-ah,-AV.solid,aa,hb3,hb4,hof];refine⟨by decide,?_⟩;refine ay.pure _ (fun _=>sys _) ?_;obtain⟨g3,hg3⟩: ∃g3:ak,g3=[.cells 3 [[.str s.point,.int .i64 s.time,.str s.pass]],.cells 3 [[.str y.name,.bool y.closed,.int .i64 y.most]],.cells 3 [[.str [],.bool false,.int .i64 0]]]:=⟨_,rfl⟩;have lo3:=(hop.more g3).rs.len2;have hb5:=at3 (aJ hw.blk g3);rw [hg3] at lo3 hb5;simp only [jO] at hb5
 cases hopn:w.opn with
 | nil=>
  rw [hopn] at lo3;simp at lo3;simp [xH,-ah,-AV.solid,aa,hb3,hb4,hb5,hof,lo3];refine⟨ay.pure _ (fun _=>sys _) (by simp),?_⟩;by_cases k1:k=1
  ·simp [xH,k1]
  by_cases k2:k=2
  ·simp [xH,k1,k2]
  by_cases k3:k=3
  ·simp [xH,k1,k2,k3,qL];decide
  simp [xH,-ah,-AV.solid,aa,hb3,hb4,hb5,hof,lo3,k1,k2,k3]
 | cons a r=>
  have sya:=fun (H:ak)=>iR (gl:=gl) (h:=H) t a.point hp hlk hsy;have e4:jU t a.point=((eu t a.point).getD sys0).name:=rfl;have e5:mh t a.point=((eu t a.point).getD sys0).most:=rfl;generalize hya:(eu t a.point).getD sys0=ya at*;generalize (eu t a.point).isSome=za at*;have hta:=hot a (by rw [hopn];simp);have wd:IntKind.i64.wrap (s.time - a.time)=s.time - a.time:=aD (by omega) (by omega);have hpos:(0:Int)<((r.length+1:Nat):Int):=by omega
  have hpos':(0:Int)<(r.length:Int)+1:=by omega
  obtain⟨g4,hg4⟩: ∃g4:ak,g4=[.cells 3 [[.str s.point,.int .i64 s.time,.str s.pass]],.cells 3 [[.str y.name,.bool y.closed,.int .i64 y.most]],.cells 3 [[.str ya.name,.bool ya.closed,.int .i64 ya.most]]]:=⟨_,rfl⟩;have lo4:=(hop.more g4).rs.len2;have hb6:=at3 (aJ hw.blk g4);have r3:=Rs.ix Tryz.prog (hop.more g3).rs 0 (by omega) (y:=aa a) (by simp [hopn]);have r4:=Rs.ix Tryz.prog (hop.more g4).rs 0 (by omega) (y:=aa a) (by simp [hopn]);rw [hg3] at r3;rw [hg4] at r4 lo4 hb6;rw [hopn] at lo3 lo4;simp only [jO] at hb6;simp only [aa] at r3 r4;simp at lo3 lo4;simp [xH,-ah,-AV.solid,aa,hb3,hb4,hb5,hof,lo3,r3,hpos'];refine⟨ay.pure _ (fun _=>sys _) (by simp),?_⟩;refine⟨⟨by decide,?_⟩,fun hc=>absurd hc (by omega)⟩;refine ay.pure _ (fun _=>sya _) ?_;simp [xH,-ah,-AV.solid,aa,hb3,hb4,hb5,hb6,hof,lo3,lo4,r3,r4,hpos'];by_cases k1:k=1
  ·simp [k1]
  by_cases k2:k=2
  ·simp [k1,k2]
  by_cases k3:k=3
  ·by_cases q1:ya.name=y.name
   ·by_cases q2:s.time - a.time≤ya.most
    ·simp [xH,-ah,-AV.solid,aa,hb6,hof,lo4,r4,k1,k2,k3,qL,e1,e4,e5,q1,q2,wd];decide
    ·simp [xH,-ah,-AV.solid,aa,hb6,hof,lo4,r4,k1,k2,k3,qL,e1,e4,e5,q1,q2,wd];decide
   ·simp [xH,-ah,-AV.solid,aa,hb6,hof,lo4,r4,k1,k2,k3,qL,e1,e4,e5,q1,wd];decide
  by_cases q1:ya.name=y.name
  ·simp [xH,-ah,-AV.solid,aa,hb6,hof,lo4,r4,k1,k2,k3,Go.Toll.sameB,e1,e4,q1,hpos']
  ·cases z <;> simp [xH,-ah,-AV.solid,aa,hb6,hof,lo4,r4,k1,k2,k3,Go.Toll.sameB,e1,e4,q1,hpos']
end Go.Proofs.YtkpioblbeiaefaaGreat
end
section
namespace Go.Toll
open Go Go.Abs
theorem G5 (why:Int)(l:List bq):(dV why l).map (·.id)=bg l:=by simp [dV,bg]
theorem vT (a b:List bq):bg (a++b)=bg a++bg b:=by simp [bg]
def pu (w:dG):List Bytes:=w.trips.flatMap (fun x=>bg x.stops)++w.out.map (·.id)
section
variable {t : bn} {veh : Bytes} {cls : Bytes → Int}
theorem PX (a:Bytes)(w:dG)(s:bq):(pu (jJ t veh cls w s)).count a+(bg (jJ t veh cls w s).opn).count a=(pu w).count a+(bg w.opn).count a+(bg [s]).count a:=by
 have hx: ∀l before,(iC t veh cls l before).stops=l:=fun _ _=>rfl;have hn:bg []=[]:=rfl;unfold jJ;split <;> simp only [pu,List.flatMap_append,List.flatMap_cons,List.flatMap_nil,List.append_nil,List.map_append,List.count_append,G5,hx,vT,hn,List.count_nil] <;> omega
theorem step_count (a:Bytes)(w:dG)(s:bq):(pu (dA t veh cls w s)).count a+(bg (dA t veh cls w s).opn).count a=(pu w).count a+(bg w.opn).count a+(bg [s]).count a:=by
 rw [←PX (t:=t) (veh:=veh) (cls:=cls) a w s];unfold dA;split <;> rfl
theorem IZ (a:Bytes): ∀(l:List bq) (w:dG),(pu (l.foldl (dA t veh cls) w)).count a+(bg (l.foldl (dA t veh cls) w).opn).count a=(pu w).count a+(bg w.opn).count a+(bg l).count a
 | [],w=>by simp [bg]
 | s::l,w=>by
  rw [List.foldl_cons,IZ a l,step_count];have:bg (s::l)=bg [s]++bg l:=vT [s] l;rw [this,List.count_append];omega
theorem Nl (a:Bytes)(w:dG):(pu (wK w)).count a=(pu w).count a+(bg w.opn).count a:=by
 simp only [wK,pu,List.map_append,List.count_append,G5];omega
theorem OV (a:Bytes)(w:dG)(l:List bq):(pu (Ca t veh cls w l)).count a=(pu w).count a+(bg w.opn).count a+(bg l).count a:=by
 rw [Ca,Nl,IZ]
end
theorem Ea (l:List Int): ∀k:Nat,0≤kL l k∧kL l k≤k
 | 0=>by simp [kL]
 | k+1=>by
  have:=Ea l k;rw [kL];split <;> omega
section
variable {t : bn} {veh : Bytes} {cls : Bytes → Int}
end
end Go.Toll
end
