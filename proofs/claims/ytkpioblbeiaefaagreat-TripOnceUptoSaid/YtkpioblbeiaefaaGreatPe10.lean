/- Part 10 of the lemmas below the statements of this seat: TollText. -/
import Derived.Test.YtkpioblbeiaefaaGreatPe09
set_option linter.unusedSectionVars false
set_option linter.unusedVariables false
set_option linter.unusedSimpArgs false
set_option linter.unnecessarySimpa false
set_option maxRecDepth 100000
namespace Go.Toll
open Go Go.Abs
theorem Oi: ∀a b:Bytes,Op.bytesLess a b=decide (a<b)
 | [],[]=>by simp [Op.bytesLess]
 | [],b::y=>by simp [Op.bytesLess]
 | a::x,[]=>by simp [Op.bytesLess]
 | a::x,b::y=>by
  rw [Op.bytesLess,Oi x y];rw [Bool.eq_iff_iff];simp [List.cons_lt_cons_iff]
def JL (s:Bytes):List Bytes→List Bytes
 | []=>[s]
 | y::l=>if Op.bytesLess s y=true then s::y::l else y::JL s l
theorem rX (s:Bytes): ∀l:List Bytes,(JL s l).Perm (s::l)
 | []=> .refl _
 | y::l=>by
  rw [JL];split
  ·exact .refl _
  ·exact ((rX s l).cons y).trans (.swap s y l)
def vo (l:List Bytes):Prop:=l.Pairwise fun a b=>decide (a≤b)=true
theorem Hf (s:Bytes): ∀l:List Bytes,vo l→vo (JL s l)
 | [],_=>by simp [JL,vo]
 | y::l,h=>by
  obtain⟨h1,h2⟩:=List.pairwise_cons.1 h;rw [JL,Oi];split
  ·rename_i c;have c:s<y:=by simpa using c
   have c':s≤y:=List.le_of_lt c;refine List.pairwise_cons.2 ⟨fun b hb=> ?_,h⟩;rcases List.mem_cons.1 hb with rfl | hb
   ·exact decide_eq_true c'
   ·exact decide_eq_true (List.le_trans c' (of_decide_eq_true (h1 b hb)))
  ·rename_i c;have c: ¬s<y:=by simpa using c
   have c':y≤s:=List.not_lt.1 c;refine List.pairwise_cons.2 ⟨fun b hb=> ?_,Hf s l h2⟩;rcases List.mem_cons.1 ((rX s l).mem_iff.1 hb) with rfl | hb
   ·exact decide_eq_true c'
   ·exact h1 b hb
theorem DU (a b c:Bytes)(h1:decide (a≤b)=true)(h2:decide (b≤c)=true):decide (a≤c)=true:=decide_eq_true (List.le_trans (of_decide_eq_true h1) (of_decide_eq_true h2))
theorem DT (a b:Bytes):(decide (a≤b) || decide (b≤a))=true:=by
 rcases List.le_total a b with h | h <;> simp [h]
theorem Nq (l:List Bytes):vo (jD l):=List.pairwise_mergeSort DU DT l
theorem rJ (l:List Bytes):(jD l).Perm l:=List.mergeSort_perm _ _
theorem Em (l:List Bytes)(s:Bytes):s∈jD l↔s∈l:=(rJ l).mem_iff
theorem El (l:List Bytes):(jD l).length=l.length:=(rJ l).length_eq
theorem yn {l:List Bytes} (h:l.Nodup):(jD l).Nodup:=(rJ l).nodup_iff.2 h
def JJ (l:List Bytes)(s:Bytes):List Bytes:=if s∈l then l else JL s l
theorem AC (l:List Bytes)(s x:Bytes):x∈JJ l s↔x=s∨x∈l:=by
 unfold JJ;split
 ·rename_i h;exact⟨.inr,by rintro (rfl | h');exact h;exact h'⟩
 ·rw [(rX s l).mem_iff,List.mem_cons]
theorem OE {l:List Bytes} (s:Bytes)(h:vo l):vo (JJ l s):=by
 unfold JJ;split
 ·exact h
 ·exact Hf s l h
theorem JK {l:List Bytes} (s:Bytes)(h:l.Nodup):(JJ l s).Nodup:=by
 unfold JJ;split
 ·exact h
 ·rename_i h';exact (rX s l).nodup_iff.2 (List.nodup_cons.2 ⟨h',h⟩)
theorem wT (a b:Bytes):mR b a= - mR a b:=by rw [vF,vF,wR]
def d9:List Bytes→List Bytes→Int
 | [],[]=>0
 | [],_::_=> -1
 | _::_,[]=>1
 | a::x,b::y=>if mR a b=0 then d9 x y else mR a b
theorem sF: ∀x y,d9 y x= - d9 x y
 | [],[]=>rfl
 | [],_::_=>rfl
 | _::_,[]=>rfl
 | a::x,b::y=>by
  rw [d9,d9,sF x y,wT a b];by_cases h:mR a b=0
  ·simp [h]
  ·rw [if_neg h,if_neg (by omega)]
theorem sG: ∀ {x y},d9 x y=0↔x=y
 | [],[]=>by simp [d9]
 | [],_::_=>by simp [d9]
 | _::_,[]=>by simp [d9]
 | a::x,b::y=>by
  rw [d9];by_cases h:mR a b=0
  ·rw [if_pos h,sG,jM.1 h];simp
  ·rw [if_neg h];constructor
   ·intro h';exact absurd h' h
   ·intro h';injection h' with h1 h2;exact absurd (jM.2 h1) h
theorem Eb (x:List Bytes):d9 x x=0:=sG.2 rfl
theorem Bq: ∀ {x y z},d9 x y≤0→d9 y z≤0→d9 x z≤0
 | [],_,[],_,_=>by simp [d9]
 | [],_,_::_,_,_=>by simp [d9]
 | _::_,[],_,h,_=>by simp [d9] at h
 | _::_,_::_,[],_,h=>by simp [d9] at h
 | a::x,b::y,c::z,h1,h2=>by
  rw [d9] at h1 h2 ⊢;have t:=M6.trans a b c;by_cases e1:mR a b=0
  ·rw [if_pos e1] at h1;rw [jM.1 e1];by_cases e2:mR b c=0
   ·rw [if_pos e2] at h2 ⊢;exact Bq h1 h2
   ·rw [if_neg e2] at h2 ⊢;exact h2
  ·rw [if_neg e1] at h1;by_cases e2:mR b c=0
   ·rw [←jM.1 e2,if_neg e1];exact h1
   ·rw [if_neg e2] at h2;have h3:=t h1 h2;by_cases e3:mR a c=0
    ·exfalso
     have:=jM.1 e3;subst this;have:=wT a b;omega
    ·rw [if_neg e3];exact h3
theorem Ea (a:Bytes)(x y:List Bytes):d9 (a::x) (a::y)=d9 x y:=by rw [d9,if_pos (jM.2 rfl)]
theorem Pj (p x y:List Bytes):d9 (p++x) (p++y)=d9 x y:=by
 induction p with
 | nil=>rfl
 | cons a p ih=>rw [List.cons_append,List.cons_append,Ea,ih]
theorem Bp: ∀ {x y:List Bytes} (u v:List Bytes),x.length=y.length→d9 (x++u) (y++v)=if d9 x y=0 then d9 u v else d9 x y
 | [],[],u,v,_=>by simp [d9]
 | [],_::_,_,_,h=>by simp at h
 | _::_,[],_,_,h=>by simp at h
 | a::x,b::y,u,v,h=>by
  rw [List.cons_append,List.cons_append,d9,d9,Bp u v (by simpa using h)];by_cases e:mR a b=0
  ·simp [e]
  ·simp [e]
theorem Ph (a b:Bytes):d9 [a] [b]=mR a b:=by
 rw [d9];split
 ·rename_i h;rw [h];rfl
 ·rfl
theorem K5 (a b:Bytes):mR a b≤0↔a≤b:=by
 have h1:= @Ou b a;have h2:=wT a b;rw [Oi] at h1;constructor
 ·intro h;refine List.not_lt.1 fun hl=> ?_;have:=h1.2 (decide_eq_true hl);omega
 ·intro h;rcases Int.lt_or_le 0 (mR a b) with h3 | h3
  ·have:=of_decide_eq_true (h1.1 (by omega));exact absurd h (List.not_le.2 this)
  ·exact h3
end Go.Toll
