/- Part 9 of the lemmas below the statements of this seat: TollText. -/
import Derived.Test.YtkpioblbeiaefaaGreatPr08
set_option linter.unusedSectionVars false
set_option linter.unusedVariables false
set_option linter.unusedSimpArgs false
set_option linter.unnecessarySimpa false
set_option maxRecDepth 100000
namespace Go.Toll
open Go Go.Abs
theorem P5: ∀a b:Bytes,Op.bytesLess a b=decide (a<b)
 | [],[]=>by simp [Op.bytesLess]
 | [],b::y=>by simp [Op.bytesLess]
 | a::x,[]=>by simp [Op.bytesLess]
 | a::x,b::y=>by
  rw [Op.bytesLess,P5 x y];rw [Bool.eq_iff_iff];simp [List.cons_lt_cons_iff]
def yw (s:Bytes):List Bytes→List Bytes
 | []=>[s]
 | y::l=>if Op.bytesLess s y=true then s::y::l else y::yw s l
theorem o9 (s:Bytes): ∀l:List Bytes,(yw s l).Perm (s::l)
 | []=> .refl _
 | y::l=>by
  rw [yw];split
  ·exact .refl _
  ·exact ((o9 s l).cons y).trans (.swap s y l)
theorem Ql (s:Bytes)(l:List Bytes):(yw s l).length=l.length+1:=(o9 s l).length_eq
def oH (l:List Bytes):Prop:=l.Pairwise fun a b=>decide (a≤b)=true
theorem Jp (s:Bytes): ∀l:List Bytes,oH l→oH (yw s l)
 | [],_=>by simp [yw,oH]
 | y::l,h=>by
  obtain⟨h1,h2⟩:=List.pairwise_cons.1 h;rw [yw,P5];split
  ·rename_i c;have c:s<y:=by simpa using c
   have c':s≤y:=List.le_of_lt c;refine List.pairwise_cons.2 ⟨fun b hb=> ?_,h⟩;rcases List.mem_cons.1 hb with rfl | hb
   ·exact decide_eq_true c'
   ·exact decide_eq_true (List.le_trans c' (of_decide_eq_true (h1 b hb)))
  ·rename_i c;have c: ¬s<y:=by simpa using c
   have c':y≤s:=List.not_lt.1 c;refine List.pairwise_cons.2 ⟨fun b hb=> ?_,Jp s l h2⟩;rcases List.mem_cons.1 ((o9 s l).mem_iff.1 hb) with rfl | hb
   ·exact decide_eq_true c'
   ·exact h1 b hb
theorem Fp (a b c:Bytes)(h1:decide (a≤b)=true)(h2:decide (b≤c)=true):decide (a≤c)=true:=decide_eq_true (List.le_trans (of_decide_eq_true h1) (of_decide_eq_true h2))
theorem Fj (a b:Bytes):(decide (a≤b) || decide (b≤a))=true:=by
 rcases List.le_total a b with h | h <;> simp [h]
theorem GX {a b:Bytes} (h1:decide (a≤b)=true)(h2:decide (b≤a)=true):a=b:=List.le_antisymm (of_decide_eq_true h1) (of_decide_eq_true h2)
theorem IM: ∀ {l m:List Bytes},oH l→oH m→l.Perm m→l=m
 | [],m,_,_,hp=>(List.nil_perm.1 hp).symm
 | a::l,[],_,_,hp=>by have:=hp.length_eq;simp at this
 | a::l,b::m,hl,hm,hp=>by
  obtain⟨h1,h2⟩:=List.pairwise_cons.1 hl;obtain⟨h3,h4⟩:=List.pairwise_cons.1 hm;have hab:a=b:=by
   rcases List.mem_cons.1 (hp.mem_iff.1 List.mem_cons_self) with e | ha
   ·exact e
   ·rcases List.mem_cons.1 (hp.mem_iff.2 (List.mem_cons_self (a:=b) (l:=m))) with e | hb
    ·exact e.symm
    ·exact GX (h1 b hb) (h3 a ha)
  subst hab;rw [IM h2 h4 ((List.perm_cons a).1 hp)]
theorem KN {l m:List Bytes} (hl:oH l)(hm:oH m)(hn:l.Nodup)(hn':m.Nodup)(h: ∀x,x∈l↔x∈m):l=m:=IM hl hm ((List.perm_ext_iff_of_nodup hn hn').2 h)
theorem FQ (l:List Bytes):oH (ku l):=List.pairwise_mergeSort Fp Fj l
theorem tO (l:List Bytes):(ku l).Perm l:=List.mergeSort_perm _ _
theorem yN (l:List Bytes)(s:Bytes):s∈ku l↔s∈l:=(tO l).mem_iff
theorem FR (l:List Bytes):(ku l).length=l.length:=(tO l).length_eq
theorem zS {l:List Bytes} (h:l.Nodup):(ku l).Nodup:=(tO l).nodup_iff.2 h
def sK (l:List Bytes)(s:Bytes):List Bytes:=if s∈l then l else yw s l
theorem xg (l:List Bytes)(s x:Bytes):x∈sK l s↔x=s∨x∈l:=by
 unfold sK;split
 ·rename_i h;exact⟨.inr,by rintro (rfl | h');exact h;exact h'⟩
 ·rw [(o9 s l).mem_iff,List.mem_cons]
theorem Jn {l:List Bytes} (s:Bytes)(h:oH l):oH (sK l s):=by
 unfold sK;split
 ·exact h
 ·exact Jp s l h
theorem Ca {l:List Bytes} (s:Bytes)(h:l.Nodup):(sK l s).Nodup:=by
 unfold sK;split
 ·exact h
 ·rename_i h';exact (o9 s l).nodup_iff.2 (List.nodup_cons.2 ⟨h',h⟩)
theorem Jo (l:List Bytes)(s:Bytes):(sK l s).length≤l.length+1:=by
 unfold sK;split
 ·omega
 ·rw [Ql];omega
theorem x8 (a b:Bytes):lS b a= - lS a b:=by rw [wR,wR,xY]
def dQ:List Bytes→List Bytes→Int
 | [],[]=>0
 | [],_::_=> -1
 | _::_,[]=>1
 | a::x,b::y=>if lS a b=0 then dQ x y else lS a b
theorem uq: ∀x y,dQ y x= - dQ x y
 | [],[]=>rfl
 | [],_::_=>rfl
 | _::_,[]=>rfl
 | a::x,b::y=>by
  rw [dQ,dQ,uq x y,x8 a b];by_cases h:lS a b=0
  ·simp [h]
  ·rw [if_neg h,if_neg (by omega)]
theorem ut: ∀ {x y},dQ x y=0↔x=y
 | [],[]=>by simp [dQ]
 | [],_::_=>by simp [dQ]
 | _::_,[]=>by simp [dQ]
 | a::x,b::y=>by
  rw [dQ];by_cases h:lS a b=0
  ·rw [if_pos h,ut,iG.1 h];simp
  ·rw [if_neg h];constructor
   ·intro h';exact absurd h' h
   ·intro h';injection h' with h1 h2;exact absurd (iG.2 h1) h
theorem FH (x:List Bytes):dQ x x=0:=ut.2 rfl
theorem CQ: ∀ {x y z},dQ x y≤0→dQ y z≤0→dQ x z≤0
 | [],_,[],_,_=>by simp [dQ]
 | [],_,_::_,_,_=>by simp [dQ]
 | _::_,[],_,h,_=>by simp [dQ] at h
 | _::_,_::_,[],_,h=>by simp [dQ] at h
 | a::x,b::y,c::z,h1,h2=>by
  rw [dQ] at h1 h2 ⊢;have t:=OT.trans a b c;by_cases e1:lS a b=0
  ·rw [if_pos e1] at h1;rw [iG.1 e1];by_cases e2:lS b c=0
   ·rw [if_pos e2] at h2 ⊢;exact CQ h1 h2
   ·rw [if_neg e2] at h2 ⊢;exact h2
  ·rw [if_neg e1] at h1;by_cases e2:lS b c=0
   ·rw [←iG.1 e2,if_neg e1];exact h1
   ·rw [if_neg e2] at h2;have h3:=t h1 h2;by_cases e3:lS a c=0
    ·exfalso
     have:=iG.1 e3;subst this;have:=x8 a b;omega
    ·rw [if_neg e3];exact h3
theorem FE (a:Bytes)(x y:List Bytes):dQ (a::x) (a::y)=dQ x y:=by rw [dQ,if_pos (iG.2 rfl)]
theorem QR (p x y:List Bytes):dQ (p++x) (p++y)=dQ x y:=by
 induction p with
 | nil=>rfl
 | cons a p ih=>rw [List.cons_append,List.cons_append,FE,ih]
theorem CP: ∀ {x y:List Bytes} (u v:List Bytes),x.length=y.length→dQ (x++u) (y++v)=if dQ x y=0 then dQ u v else dQ x y
 | [],[],u,v,_=>by simp [dQ]
 | [],_::_,_,_,h=>by simp at h
 | _::_,[],_,_,h=>by simp at h
 | a::x,b::y,u,v,h=>by
  rw [List.cons_append,List.cons_append,dQ,dQ,CP u v (by simpa using h)];by_cases e:lS a b=0
  ·simp [e]
  ·simp [e]
theorem QQ (a b:Bytes):dQ [a] [b]=lS a b:=by
 rw [dQ];split
 ·rename_i h;rw [h];rfl
 ·rfl
theorem MP (a b:Bytes):lS a b≤0↔a≤b:=by
 have h1:= @Qb b a;have h2:=x8 a b;rw [P5] at h1;constructor
 ·intro h;refine List.not_lt.1 fun hl=> ?_;have:=h1.2 (decide_eq_true hl);omega
 ·intro h;rcases Int.lt_or_le 0 (lS a b) with h3 | h3
  ·have:=of_decide_eq_true (h1.1 (by omega));exact absurd h (List.not_le.2 this)
  ·exact h3
end Go.Toll
