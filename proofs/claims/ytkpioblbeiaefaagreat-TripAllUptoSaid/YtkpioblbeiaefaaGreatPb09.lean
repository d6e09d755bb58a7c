/- Part 9 of the lemmas below the statements of this seat: TollText. -/
import Derived.Test.YtkpioblbeiaefaaGreatPb08
set_option linter.unusedSectionVars false
set_option linter.unusedVariables false
set_option linter.unusedSimpArgs false
set_option linter.unnecessarySimpa false
set_option maxRecDepth 100000
namespace Go.Toll
open Go Go.Abs
theorem R4: ∀a b:Bytes,Op.bytesLess a b=decide (a<b)
 | [],[]=>by simp [Op.bytesLess]
 | [],b::y=>by simp [Op.bytesLess]
 | a::x,[]=>by simp [Op.bytesLess]
 | a::x,b::y=>by
  rw [Op.bytesLess,R4 x y];rw [Bool.eq_iff_iff];simp [List.cons_lt_cons_iff]
def zY (s:Bytes):List Bytes→List Bytes
 | []=>[s]
 | y::l=>if Op.bytesLess s y=true then s::y::l else y::zY s l
theorem qX (s:Bytes): ∀l:List Bytes,(zY s l).Perm (s::l)
 | []=> .refl _
 | y::l=>by
  rw [zY];split
  ·exact .refl _
  ·exact ((qX s l).cons y).trans (.swap s y l)
theorem Sl (s:Bytes)(l:List Bytes):(zY s l).length=l.length+1:=(qX s l).length_eq
def oF (l:List Bytes):Prop:=l.Pairwise fun a b=>decide (a≤b)=true
theorem Lh (s:Bytes): ∀l:List Bytes,oF l→oF (zY s l)
 | [],_=>by simp [zY,oF]
 | y::l,h=>by
  obtain⟨h1,h2⟩:=List.pairwise_cons.1 h;rw [zY,R4];split
  ·rename_i c;have c:s<y:=by simpa using c
   have c':s≤y:=List.le_of_lt c;refine List.pairwise_cons.2 ⟨fun b hb=> ?_,h⟩;rcases List.mem_cons.1 hb with rfl | hb
   ·exact decide_eq_true c'
   ·exact decide_eq_true (List.le_trans c' (of_decide_eq_true (h1 b hb)))
  ·rename_i c;have c: ¬s<y:=by simpa using c
   have c':y≤s:=List.not_lt.1 c;refine List.pairwise_cons.2 ⟨fun b hb=> ?_,Lh s l h2⟩;rcases List.mem_cons.1 ((qX s l).mem_iff.1 hb) with rfl | hb
   ·exact decide_eq_true c'
   ·exact h1 b hb
theorem Hy (a b c:Bytes)(h1:decide (a≤b)=true)(h2:decide (b≤c)=true):decide (a≤c)=true:=decide_eq_true (List.le_trans (of_decide_eq_true h1) (of_decide_eq_true h2))
theorem Hw (a b:Bytes):(decide (a≤b) || decide (b≤a))=true:=by
 rcases List.le_total a b with h | h <;> simp [h]
theorem JB {a b:Bytes} (h1:decide (a≤b)=true)(h2:decide (b≤a)=true):a=b:=List.le_antisymm (of_decide_eq_true h1) (of_decide_eq_true h2)
theorem KD: ∀ {l m:List Bytes},oF l→oF m→l.Perm m→l=m
 | [],m,_,_,hp=>(List.nil_perm.1 hp).symm
 | a::l,[],_,_,hp=>by have:=hp.length_eq;simp at this
 | a::l,b::m,hl,hm,hp=>by
  obtain⟨h1,h2⟩:=List.pairwise_cons.1 hl;obtain⟨h3,h4⟩:=List.pairwise_cons.1 hm;have hab:a=b:=by
   rcases List.mem_cons.1 (hp.mem_iff.1 List.mem_cons_self) with e | ha
   ·exact e
   ·rcases List.mem_cons.1 (hp.mem_iff.2 (List.mem_cons_self (a:=b) (l:=m))) with e | hb
    ·exact e.symm
    ·exact JB (h1 b hb) (h3 a ha)
  subst hab;rw [KD h2 h4 ((List.perm_cons a).1 hp)]
theorem CV {l m:List Bytes} (hl:oF l)(hm:oF m)(hn:l.Nodup)(hn':m.Nodup)(h: ∀x,x∈l↔x∈m):l=m:=KD hl hm ((List.perm_ext_iff_of_nodup hn hn').2 h)
theorem IG (l:List Bytes):oF (ll l):=List.pairwise_mergeSort Hy Hw l
theorem vB (l:List Bytes):(ll l).Perm l:=List.mergeSort_perm _ _
theorem Aq (l:List Bytes)(s:Bytes):s∈ll l↔s∈l:=(vB l).mem_iff
theorem II (l:List Bytes):(ll l).length=l.length:=(vB l).length_eq
theorem Br {l:List Bytes} (h:l.Nodup):(ll l).Nodup:=(vB l).nodup_iff.2 h
def pz (l:List Bytes)(s:Bytes):List Bytes:=if s∈l then l else zY s l
theorem uN (l:List Bytes)(s x:Bytes):x∈pz l s↔x=s∨x∈l:=by
 unfold pz;split
 ·rename_i h;exact⟨.inr,by rintro (rfl | h');exact h;exact h'⟩
 ·rw [(qX s l).mem_iff,List.mem_cons]
theorem DZ {l:List Bytes} (s:Bytes)(h:oF l):oF (pz l s):=by
 unfold pz;split
 ·exact h
 ·exact Lh s l h
theorem xn {l:List Bytes} (s:Bytes)(h:l.Nodup):(pz l s).Nodup:=by
 unfold pz;split
 ·exact h
 ·rename_i h';exact (qX s l).nodup_iff.2 (List.nodup_cons.2 ⟨h',h⟩)
theorem D5 (l:List Bytes)(s:Bytes):(pz l s).length≤l.length+1:=by
 unfold pz;split
 ·omega
 ·rw [Sl];omega
def BL (out:List Bytes)(l:List Bytes):List Bytes:=l.foldl pz out
theorem Le (out:List Bytes):BL out []=out:=rfl
theorem Hl (out:List Bytes)(p:Bytes)(l:List Bytes):BL out (p::l)=BL (pz out p) l:=rfl
theorem Lc: ∀(l out:List Bytes),oF out→out.Nodup→oF (BL out l)∧(BL out l).Nodup∧ ∀a,a∈BL out l↔a∈out∨a∈l
 | [],out,h1,h2=>⟨h1,h2,by simp [Le]⟩
 | p::l,out,h1,h2=>by
  obtain⟨i1,i2,i3⟩:=Lc l _ (DZ p h1) (xn p h2);rw [Hl];refine⟨i1,i2,fun a=> ?_⟩;rw [i3,uN,List.mem_cons];constructor
  ·rintro ((h | h) | h)
   ·exact .inr (.inl h)
   ·exact .inl h
   ·exact .inr (.inr h)
  ·rintro (h | h | h)
   ·exact .inl (.inr h)
   ·exact .inl (.inl h)
   ·exact .inr h
theorem zO (a b:Bytes):mO b a= - mO a b:=by rw [yn,yn,qI]
def fq:List Bytes→List Bytes→Int
 | [],[]=>0
 | [],_::_=> -1
 | _::_,[]=>1
 | a::x,b::y=>if mO a b=0 then fq x y else mO a b
theorem vU: ∀x y,fq y x= - fq x y
 | [],[]=>rfl
 | [],_::_=>rfl
 | _::_,[]=>rfl
 | a::x,b::y=>by
  rw [fq,fq,vU x y,zO a b];by_cases h:mO a b=0
  ·simp [h]
  ·rw [if_neg h,if_neg (by omega)]
theorem vV: ∀ {x y},fq x y=0↔x=y
 | [],[]=>by simp [fq]
 | [],_::_=>by simp [fq]
 | _::_,[]=>by simp [fq]
 | a::x,b::y=>by
  rw [fq];by_cases h:mO a b=0
  ·rw [if_pos h,vV,jy.1 h];simp
  ·rw [if_neg h];constructor
   ·intro h';exact absurd h' h
   ·intro h';injection h' with h1 h2;exact absurd (jy.2 h1) h
theorem Ik (x:List Bytes):fq x x=0:=vV.2 rfl
theorem Ez: ∀ {x y z},fq x y≤0→fq y z≤0→fq x z≤0
 | [],_,[],_,_=>by simp [fq]
 | [],_,_::_,_,_=>by simp [fq]
 | _::_,[],_,h,_=>by simp [fq] at h
 | _::_,_::_,[],_,h=>by simp [fq] at h
 | a::x,b::y,c::z,h1,h2=>by
  rw [fq] at h1 h2 ⊢;have t:=QY.trans a b c;by_cases e1:mO a b=0
  ·rw [if_pos e1] at h1;rw [jy.1 e1];by_cases e2:mO b c=0
   ·rw [if_pos e2] at h2 ⊢;exact Ez h1 h2
   ·rw [if_neg e2] at h2 ⊢;exact h2
  ·rw [if_neg e1] at h1;by_cases e2:mO b c=0
   ·rw [←jy.1 e2,if_neg e1];exact h1
   ·rw [if_neg e2] at h2;have h3:=t h1 h2;by_cases e3:mO a c=0
    ·exfalso
     have:=jy.1 e3;subst this;have:=zO a b;omega
    ·rw [if_neg e3];exact h3
theorem Ij (a:Bytes)(x y:List Bytes):fq (a::x) (a::y)=fq x y:=by rw [fq,if_pos (jy.2 rfl)]
theorem Tj (p x y:List Bytes):fq (p++x) (p++y)=fq x y:=by
 induction p with
 | nil=>rfl
 | cons a p ih=>rw [List.cons_append,List.cons_append,Ij,ih]
theorem Ey: ∀ {x y:List Bytes} (u v:List Bytes),x.length=y.length→fq (x++u) (y++v)=if fq x y=0 then fq u v else fq x y
 | [],[],u,v,_=>by simp [fq]
 | [],_::_,_,_,h=>by simp at h
 | _::_,[],_,_,h=>by simp at h
 | a::x,b::y,u,v,h=>by
  rw [List.cons_append,List.cons_append,fq,fq,Ey u v (by simpa using h)];by_cases e:mO a b=0
  ·simp [e]
  ·simp [e]
theorem Ti (a b:Bytes):fq [a] [b]=mO a b:=by
 rw [fq];split
 ·rename_i h;rw [h];rfl
 ·rfl
theorem O3 (a b:Bytes):mO a b≤0↔a≤b:=by
 have h1:= @Sa b a;have h2:=zO a b;rw [R4] at h1;constructor
 ·intro h;refine List.not_lt.1 fun hl=> ?_;have:=h1.2 (decide_eq_true hl);omega
 ·intro h;rcases Int.lt_or_le 0 (mO a b) with h3 | h3
  ·have:=of_decide_eq_true (h1.1 (by omega));exact absurd h (List.not_le.2 this)
  ·exact h3
end Go.Toll
