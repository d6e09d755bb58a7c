/- Part 5 of the lemmas below the statements of this seat: AbsSort, SortPass, TollRate, AbsBridge, TollShape. -/
import Derived.Test.YtkpioblbeiaefaaGreatPb03
import Derived.Test.YtkpioblbeiaefaaGreatPb04
import Derived.ReadAgain
import Derived.ChangeArms
import Derived.ChangeSame
import Derived.RowKit
import Derived.OpenShut
import Derived.ChangeCalls
set_option linter.unusedSectionVars false
set_option linter.unusedVariables false
set_option linter.unusedSimpArgs false
set_option linter.unnecessarySimpa false
set_option maxRecDepth 100000
section
section
namespace Go.Toll
open Go Go.Abs
section
variable {α : Type}
def gz (lt:α→α→Bool)(x:α)(l:List α):Nat→Nat
 | 0=>0
 | k+1=>match l[k]? with
  | some y=>if lt x y then gz lt x l k else k+1
  | none=>k+1
def gV (lt:α→α→Bool)(x:α)(l:List α):List α:=l.take (gz lt x l l.length)++x::l.drop (gz lt x l l.length)
def aT (lt:α→α→Bool)(l:List α):List α:=l.foldl (fun acc x=>gV lt x acc) []
theorem Lg (lt:α→α→Bool)(x:α)(l:List α):(gV lt x l).length=l.length+1:=by
 simp [gV];omega
theorem bI (lt:α→α→Bool)(l:List α):(aT lt l).length=l.length:=by
 have: ∀(l acc:List α),(l.foldl (fun acc x=>gV lt x acc) acc).length=acc.length+l.length:=by
  intro l
  induction l with
  | nil=>simp
  | cons x l ih=>intro acc;simp [ih,Lg];omega
 simpa [aT] using this l []
theorem Eg (lt:α→α→Bool) {x y:α} {l:List α}:y∈gV lt x l↔y=x∨y∈l:=by
 unfold gV;generalize gz lt x l l.length=k;have:y∈l↔y∈l.take k∨y∈l.drop k:=by rw [←List.mem_append,List.take_append_drop]
 rw [this];simp only [List.mem_append,List.mem_cons];constructor
 ·rintro (h | h | h)
  ·exact .inr (.inl h)
  ·exact .inl h
  ·exact .inr (.inr h)
 ·rintro (h | h | h)
  ·exact .inr (.inl h)
  ·exact .inl h
  ·exact .inr (.inr h)
theorem dW (lt:α→α→Bool) {y:α} {l:List α}:y∈aT lt l↔y∈l:=by
 have: ∀(l acc:List α),y∈l.foldl (fun acc x=>gV lt x acc) acc↔y∈acc∨y∈l:=by
  intro l
  induction l with
  | nil=>simp
  | cons x l ih=>
   intro acc;simp only [List.foldl_cons,ih,Eg,List.mem_cons];constructor
   ·rintro ((h | h) | h)
    ·exact .inr (.inl h)
    ·exact .inl h
    ·exact .inr (.inr h)
   ·rintro (h | h | h)
    ·exact .inl (.inr h)
    ·exact .inl (.inl h)
    ·exact .inr h
 simpa [aT] using this l []
theorem gG (lt:α→α→Bool) {l:List α} {i:Nat} {x:α} (h:l[i]? =some x):aT lt (l.take (i+1))=gV lt x (aT lt (l.take i)):=by
 have:l.take (i+1)=l.take i++[x]:=by
  rw [zM,h];rfl
 simp [aT,this]
theorem I9 (a b:List α)(k:Nat):(a++b)[a.length+k]? =b[k]? :=by
 rw [zD (by omega)];congr 1;omega
def sinkB (pre l post:List α)(x:α)(j:Nat):List α:=pre++(l.take j++x::l.drop j)++post
theorem J7 {pre l post:List α} {x:α} {j:Nat} (hj:j≤l.length):(sinkB pre l post x j)[pre.length+j]? =some x:=by
 unfold sinkB;rw [zK,zD (by omega)];have:pre.length+j - pre.length=j:=by omega
 rw [this,zK,zD (by simp;omega)];simp [Nat.min_eq_left hj]
theorem J8 {pre l post:List α} {x:α} {j:Nat} (hj:j<l.length):(sinkB pre l post x (j+1))[pre.length+j]? =l[j]? :=by
 unfold sinkB;rw [zK,zD (by omega)];have:pre.length+j - pre.length=j:=by omega
 rw [this,zK,zC (by simp;omega),List.getElem?_take];simp
theorem nR {pre l post:List α} {x:α} {j:Nat}:(sinkB pre l post x j).length=pre.length+l.length+1+post.length:=by
 simp [sinkB];omega
theorem xP {pre l post:List α} {x y:α} {j:Nat} (hj:l[j]? =some y):((sinkB pre l post x (j+1)).set (pre.length+(j+1)) y).set (pre.length+j) x=sinkB pre l post x j:=by
 obtain⟨hlt,hy⟩:=zA.1 hj;apply List.ext_getElem?;intro i;rw [List.getElem?_set,List.getElem?_set,List.length_set];simp only [nR];unfold sinkB;have ht:l.take (j+1)=l.take j++[y]:=by rw [zM,hj];rfl
 have hd:l.drop j=y::l.drop (j+1):=by rw [←hy];exact List.drop_eq_getElem_cons hlt
 rw [ht,hd];simp only [zK,List.cons_append,List.nil_append];rcases zN i pre.length with h1 | h1
 ·rw [if_neg (by omega),if_neg (by omega),zC h1,zC h1]
 obtain⟨k,rfl⟩:=Nat.exists_eq_add_of_le h1;have hm:(l.take j).length=j:=by simp;omega
 rw [I9,I9];rcases zN k j with h2 | h2
 ·rw [if_neg (by omega),if_neg (by omega),zC (by omega),zC (by omega)]
 obtain⟨m,rfl⟩:=Nat.exists_eq_add_of_le h2;have e1: ∀z:List α,(l.take j++z)[j+m]? =z[m]? :=fun z=>by
  have:=I9 (l.take j) z m;rwa [hm] at this
 rw [e1,e1]
 match m with
 | 0=>rw [if_pos (by omega),if_pos (by omega)];rfl
 | 1=>rw [if_neg (by omega),if_pos (by omega),if_pos (by omega)];rfl
 | m+2=>rw [if_neg (by omega),if_neg (by omega)];rfl
end
end Go.Toll
end
section
namespace Go.Toll
open Go Go.Abs
section
variable {α : Type} {lt : α → α → Bool}
structure SWO (lt:α→α→Bool):Prop where
 asymm: ∀a b,lt a b=true→lt b a=false
 trans: ∀a b c,lt a b=false→lt b c=false→lt a c=false
theorem SWO.irrefl (o:SWO lt)(a:α):lt a a=false:=by
 cases h:lt a a with
 | false=>rfl
 | true=>have:=o.asymm a a h;rw [h] at this;cases this
theorem SWO.le_lt (o:SWO lt) {a b c:α} (h1:lt b a=false)(h2:lt b c=true):lt a c=true:=by
 cases h:lt a c with
 | true=>rfl
 | false=>
  have:=o.trans b a c h1 h;rw [h2] at this;cases this
theorem SWO.lt_le (o:SWO lt) {a b c:α} (h1:lt a b=true)(h2:lt c b=false):lt a c=true:=by
 cases h:lt a c with
 | true=>rfl
 | false=>
  have:=o.trans a c b h h2;rw [h1] at this;cases this
def jh (lt:α→α→Bool)(a b:α):Bool:= !lt a b && !lt b a
def qz (lt:α→α→Bool)(l:List α):Prop:=l.Pairwise fun a b=>lt b a=false
theorem qM (o:SWO lt)(a:α):jh lt a a=true:=by simp [jh,o.irrefl a]
theorem qz.uniq (o:SWO lt): ∀ {z z':List α},qz lt z→qz lt z'→(∀a,z.filter (jh lt a)=z'.filter (jh lt a))→z=z'
 | [],[],_,_,_=>rfl
 | [],b::l,_,_,h=>by have:=h b;simp [qM o] at this
 | a::l,[],_,_,h=>by have:=h a;simp [qM o] at this
 | x::xs,y::ys,h1,h2,h=>by
  have p1:=List.pairwise_cons.1 h1;have p2:=List.pairwise_cons.1 h2;have hxy:x=y:=by
   by_cases e:jh lt x y=true
   ·have:=h x;rw [List.filter_cons,if_pos (qM o x),List.filter_cons,if_pos e] at this;exact (List.cons.inj this).1
   ·exfalso
    have hx:x∈(y::ys).filter (jh lt x):=by rw [←h x];simp [qM o]
    have hy:y∈(x::xs).filter (jh lt y):=by rw [h y];simp [qM o]
    have hx':=(List.mem_filter.1 hx).1;have hy':=(List.mem_filter.1 hy).1;have l1:lt x y=false:=by
     rcases List.mem_cons.1 hx' with rfl | hm
     ·exact o.irrefl x
     ·exact p2.1 x hm
    have l2:lt y x=false:=by
     rcases List.mem_cons.1 hy' with rfl | hm
     ·exact o.irrefl y
     ·exact p1.1 y hm
    exact e (by simp [jh,l1,l2])
  subst hxy;congr 1
  refine qz.uniq o p1.2 p2.2 fun a=> ?_;have:=h a;rw [List.filter_cons,List.filter_cons] at this;split at this
  ·exact (List.cons.inj this).2
  ·exact this
def xY (lt:α→α→Bool)(l z:List α):Prop:=qz lt z∧ ∀a,z.filter (jh lt a)=l.filter (jh lt a)
theorem UR (o:SWO lt) {a x y:α} (hx:jh lt a x=true)(hxy:lt x y=true):jh lt a y=false:=by
 simp only [jh,Bool.and_eq_true,Bool.not_eq_true'] at hx;have:=o.le_lt (a:=a) (b:=x) (c:=y) hx.2 hxy;simp [jh,this]
theorem Sg (o:SWO lt) {a x y:α} (hx:jh lt a x=true)(hxy:lt y x=true):jh lt a y=false:=by
 simp only [jh,Bool.and_eq_true,Bool.not_eq_true'] at hx;have:=o.lt_le (a:=y) (b:=x) (c:=a) hxy hx.1;simp [jh,this]
theorem pM (o:SWO lt) {a x:α} {B:List α} (h: ∀y∈B,lt x y=true∨lt y x=true):([x]++B).filter (jh lt a)=(B++[x]).filter (jh lt a):=by
 rw [List.filter_append,List.filter_append];by_cases hx:jh lt a x=true
 ·have:B.filter (jh lt a)=[]:=by
   rw [List.filter_eq_nil_iff];intro y hy;rcases h y hy with h | h
   ·simp [UR o hx h]
   ·simp [Sg o hx h]
  simp [this]
 ·simp [hx]
theorem Jq (o:SWO lt) {a:α} {A B:List α} (h: ∀x∈A,∀y∈B,lt x y=true∨lt y x=true):(A++B).filter (jh lt a)=(B++A).filter (jh lt a):=by
 induction A with
 | nil=>simp
 | cons x A ih=>
  have h1:=pM o (a:=a) (h x (by simp));have h2:=ih fun x hx=>h x (by simp [hx]);have e1:(x::A++B).filter (jh lt a)=[x].filter (jh lt a)++(A++B).filter (jh lt a):=by
   rw [←List.filter_append];rfl
  rw [e1,h2,List.filter_append,←zK,←List.filter_append,h1,List.filter_append,zK,←List.filter_append,←List.filter_append];rfl
theorem zX (o:SWO lt)(x:α)(l:List α)(hl:qz lt l): ∀k,k≤l.length→gz lt x l k≤k∧(∀i y,i<gz lt x l k→l[i]? =some y→lt x y=false)∧(∀i y,gz lt x l k≤i→i<k→l[i]? =some y→lt x y=true)
 | 0,_=>⟨Nat.le_refl _,by simp [gz],by omega⟩
 | k+1,hk=>by
  obtain⟨y,hy⟩: ∃y,l[k]? =some y:=⟨_,zB (by omega)⟩;rw [gz,hy];simp only;obtain⟨h1,h2,h3⟩:=zX o x l hl k (by omega)
  cases hxy:lt x y with
  | true=>
   simp only [if_true];refine⟨by omega,h2,fun i z hi hik hz=> ?_⟩;by_cases e:i=k
   ·subst e;rw [hy] at hz;injection hz with hz;rw [←hz];exact hxy
   ·exact h3 i z hi (by omega) hz
  | false=>
   simp only [Bool.false_eq_true,if_false];refine⟨Nat.le_refl _,fun i z hi hz=> ?_,by omega⟩;by_cases e:i=k
   ·subst e;rw [hy] at hz;injection hz with hz;rw [←hz];exact hxy
   ·have hzy:lt y z=false:=by
     have:=List.pairwise_iff_getElem.1 hl i k (by omega) (by omega) (by omega);have e1:=zA.1 hy;have e2:=zA.1 hz;rw [←e1.2,←e2.2];exact this
    exact o.trans x y z hxy hzy
theorem Qz (o:SWO lt) {x:α} {l l₀:List α} (h:xY lt l₀ l):xY lt (l₀++[x]) (gV lt x l):=by
 obtain⟨hs,hf⟩:=h;obtain⟨h1,h2,h3⟩:=zX o x l hs l.length (Nat.le_refl _);unfold gV;generalize gz lt x l l.length=k at h1 h2 h3;have ht: ∀y∈l.take k,lt x y=false:=by
  intro y hy;obtain⟨i,hi⟩:=List.getElem?_of_mem hy;rw [List.getElem?_take] at hi;split at hi
  ·rename_i hik;exact h2 i y hik hi
  ·cases hi
 have hd: ∀y∈l.drop k,lt x y=true:=by
  intro y hy;obtain⟨i,hi⟩:=List.getElem?_of_mem hy;rw [List.getElem?_drop] at hi;exact h3 (k+i) y (by omega) (zA.1 hi).1 hi
 have hs':qz lt (l.take k++l.drop k):=by rw [List.take_append_drop];exact hs
 have hp:=List.pairwise_append.1 hs';refine⟨?_,fun a=> ?_⟩
 ·refine List.pairwise_append.2 ⟨hp.1,List.pairwise_cons.2 ⟨fun y hy=>o.asymm _ _ (hd y hy),hp.2.1⟩,fun y hy z hz=> ?_⟩;rcases List.mem_cons.1 hz with rfl | hz
  ·exact ht y hy
  ·exact hp.2.2 y hy z hz
 ·have e1:l.take k++x::l.drop k=l.take k++([x]++l.drop k):=rfl;rw [e1,List.filter_append,pM o (fun y hy=> .inl (hd y hy)),←List.filter_append,←zK,List.take_append_drop,List.filter_append,List.filter_append,hf]
theorem fB (o:SWO lt)(l:List α):xY lt l (aT lt l):=by
 have: ∀(l acc acc₀:List α),xY lt acc₀ acc→xY lt (acc₀++l) (l.foldl (fun acc x=>gV lt x acc) acc):=by
  intro l
  induction l with
  | nil=>intro acc acc₀ h;simpa using h
  | cons x l ih=>
   intro acc acc₀ h;have:=ih _ _ (Qz o (x:=x) h);simpa using this
 simpa [aT] using this l [] [] ⟨List.Pairwise.nil,fun a=>rfl⟩
theorem xY.eq (o:SWO lt) {l z:List α} (h:xY lt l z):z=aT lt l:=
 qz.uniq o h.1 (fB o l).1 fun a=>(h.2 a).trans ((fB o l).2 a).symm
theorem lh (o:SWO lt) {l:List α} (h:qz lt l):aT lt l=l:=(xY.eq o ⟨h,fun _=>rfl⟩).symm
theorem fu (o:SWO lt)(l:List α):qz lt (aT lt l):=(fB o l).1
theorem QN (o:SWO lt) {x:α} {y1 y2:List α} (hs:qz lt (y1++y2))(h1: ∀y∈y1,lt y x=true)(h2: ∀y∈y2,lt y x=false):y1++x::y2=aT lt (x::(y1++y2)):=by
 have hp:=List.pairwise_append.1 hs;refine xY.eq o ⟨?_,fun a=> ?_⟩
 ·refine List.pairwise_append.2 ⟨hp.1,List.pairwise_cons.2 ⟨h2,hp.2.1⟩,fun y hy z hz=> ?_⟩;rcases List.mem_cons.1 hz with rfl | hz
  ·exact o.asymm _ _ (h1 y hy)
  ·exact hp.2.2 y hy z hz
 ·have e1:y1++x::y2=(y1++[x])++y2:=by simp
  have e2:x::(y1++y2)=([x]++y1)++y2:=rfl;rw [e1,e2,List.filter_append (p:=jh lt a) (y1++[x]),List.filter_append (p:=jh lt a) ([x]++y1),pM o (fun y hy=> .inr (h1 y hy))]
theorem NP (o:SWO lt) {y:α} {x1 x2:List α} (hs:qz lt (x1++x2))(h1: ∀x∈x1,lt y x=false)(h2: ∀x∈x2,lt y x=true):x1++y::x2=aT lt (x1++x2++[y]):=by
 have hp:=List.pairwise_append.1 hs;refine xY.eq o ⟨?_,fun a=> ?_⟩
 ·refine List.pairwise_append.2 ⟨hp.1,List.pairwise_cons.2 ⟨fun z hz=>o.asymm _ _ (h2 z hz),hp.2.1⟩,fun x hx z hz=> ?_⟩;rcases List.mem_cons.1 hz with rfl | hz
  ·exact h1 x hx
  ·exact hp.2.2 x hx z hz
 ·have e1:x1++y::x2=x1++([y]++x2):=by simp
  rw [e1,zK,List.filter_append (p:=jh lt a) x1,pM o (fun z hz=> .inl (h2 z hz)),←List.filter_append]
theorem QM (o:SWO lt) {x1 x2 y1 y2:List α} (hx:qz lt (x1++x2))(hy:qz lt (y1++y2))(h1: ∀x∈x2,∀y∈y1,lt y x=true)(h2: ∀x∈x1,∀y∈y2,lt y x=false):
  aT lt (x1++y1)++aT lt (x2++y2)=aT lt ((x1++x2)++(y1++y2)):=by
 have px:=List.pairwise_append.1 hx;have py:=List.pairwise_append.1 hy;refine xY.eq o ⟨?_,fun a=> ?_⟩
 ·refine List.pairwise_append.2 ⟨fu o _,fu o _,fun u hu v hv=> ?_⟩;rw [dW,List.mem_append] at hu hv;rcases hu with hu | hu <;> rcases hv with hv | hv
  ·exact px.2.2 u hu v hv
  ·exact h2 u hu v hv
  ·exact o.asymm _ _ (h1 v hv u hu)
  ·exact py.2.2 u hu v hv
 ·have e1:=(fB o (x1++y1)).2 a;have e2:=(fB o (x2++y2)).2 a;rw [List.filter_append,e1,e2,←List.filter_append];have e3:x1++y1++(x2++y2)=x1++((y1++x2)++y2):=by simp
  have e4:x1++x2++(y1++y2)=x1++((x2++y1)++y2):=by simp
  rw [e3,e4,List.filter_append,List.filter_append (p:=jh lt a) x1,List.filter_append (p:=jh lt a) (y1++x2),List.filter_append (p:=jh lt a) (x2++y1),Jq o (fun y hy x hx=> .inl (h1 x hx y hy))]
end
end Go.Toll
end
section
namespace Go.Toll
open Go Go.Abs
section
variable {α : Type} {lt : α → α → Bool}
theorem ZG (A B C:List α)(u v:α):(A++u::(B++v::C))[A.length]? =some u:=by simp
theorem at2 (A B C:List α)(u v:α):(A++u::(B++v::C))[A.length+1+B.length]? =some v:=by
 have:A++u::(B++v::C)=(A++u::B)++v::C:=by simp
 rw [this,zD (by simp;omega)];simp [show A.length+1+B.length - (A.length+(B.length+1))=0 by omega]
theorem set2 (A B C:List α)(u v:α):((A++u::(B++v::C)).set A.length v).set (A.length+1+B.length) u=A++v::(B++u::C):=by
 have e1:(A++u::(B++v::C)).set A.length v=(A++v::B)++v::C:=by simp
 have e2:A.length+1+B.length=(A++v::B).length:=by simp;omega
 rw [e1,e2,List.set_append_right _ _ (Nat.le_refl _)];simp
theorem Za (A B C:List α)(u v:α):((A++u::(B++v::C)).set (A.length+1+B.length) u).set A.length v=A++v::(B++u::C):=by
 rw [List.set_comm _ _ (by omega),set2]
def BJ (lt:α→α→Bool)(B:Nat)(l:List α):Nat→List α
 | 0=>[]
 | k+1=>BJ lt B l k++aT lt ((l.drop (B*k)).take B)
def MP (lt:α→α→Bool)(B:Nat):Nat→List α→List α
 | 0,_=>[]
 | f+1,l=>aT lt (l.take B)++MP lt B f (l.drop B)
def GZ (lt:α→α→Bool)(B:Nat)(l:List α):List α:=MP lt B l.length l
theorem IE:aT lt ([]:List α)=[]:=rfl
theorem UN (B:Nat): ∀f,MP lt B f ([]:List α)=[]
 | 0=>rfl
 | f+1=>by simp [MP,IE,UN B f]
theorem Dl {B:Nat} (hB:0<B): ∀(f:Nat) (l:List α),l.length≤f→MP lt B f l=MP lt B (f+1) l
 | 0,l,h=>by
  have:l=[]:=List.length_eq_zero_iff.1 (by omega);subst this;simp [MP,IE]
 | f+1,l,h=>by
  rw [MP,MP,Dl hB f (l.drop B) (by simp;omega)]
theorem O8 {B:Nat} (hB:0<B)(l:List α)(f:Nat)(h:l.length≤f): ∀n,MP lt B (f+n) l=MP lt B f l
 | 0=>rfl
 | n+1=>by rw [←Nat.add_assoc,←Dl hB (f+n) l (by omega),O8 hB l f h n]
theorem xh {B:Nat} (hB:0<B)(l:List α):GZ lt B l=aT lt (l.take B)++GZ lt B (l.drop B):=by
 unfold GZ;rw [Dl hB _ _ (Nat.le_refl _),MP];have hd:(l.drop B).length≤l.length:=by simp
 have:=O8 (lt:=lt) hB (l.drop B) (l.drop B).length (Nat.le_refl _) (l.length - (l.drop B).length);rw [←this,Nat.add_sub_cancel' hd]
theorem Ci {B:Nat} (hB:0<B) {l:List α} (h:l.length≤B):GZ lt B l=aT lt l:=by
 rw [xh hB,zG h,zH h];simp [GZ,MP]
theorem Dk {B:Nat} (hB:0<B): ∀(n:Nat) (l:List α),l.length≤n→(GZ lt B l).length=l.length
 | 0,l,h=>by
  have:l=[]:=List.length_eq_zero_iff.1 (by omega);subst this;rfl
 | n+1,l,h=>by
  rw [xh hB,List.length_append,bI];by_cases h0:l.length≤B
  ·rw [zG h0,zH h0];simp [GZ,MP]
  ·rw [Dk hB n (l.drop B) (by simp;omega)];simp;omega
theorem xm {B:Nat} {l:List α}: ∀ {k:Nat},B*k≤l.length→(BJ lt B l k).length=B*k
 | 0,_=>rfl
 | k+1,h=>by
  have e:B*(k+1)=B*k+B:=Nat.mul_succ B k;rw [BJ,List.length_append,xm (by omega),bI];simp;omega
theorem Pm {B:Nat} (hB:0<B)(l:List α): ∀k,BJ lt B l k++GZ lt B (l.drop (B*k))=GZ lt B l
 | 0=>by simp [BJ]
 | k+1=>by
  rw [BJ,zK,←Pm hB l k];congr 1
  rw [xh hB (l.drop (B*k)),List.drop_drop,←Nat.mul_succ]
theorem K4 {B:Nat} (hB:0<B) {l:List α} {k:Nat} (h:(l.drop (B*k)).length≤B):BJ lt B l k++aT lt (l.drop (B*k))=GZ lt B l:=by
 rw [←Pm hB l k,Ci hB h]
theorem Ao (o:SWO lt)(A C:List α):aT lt (aT lt A++aT lt C)=aT lt (A++C):=by
 refine xY.eq o ⟨fu o _,fun a=> ?_⟩;rw [(fB o _).2,List.filter_append,(fB o _).2,(fB o _).2,←List.filter_append]
theorem UM {B:Nat} (hB:0<B)(l:List α):GZ lt B l=aT lt (l.take B)++(aT lt ((l.drop B).take B)++GZ lt B (l.drop (2*B))):=by
 rw [xh hB,xh hB (l.drop B),List.drop_drop,show B+B=2*B by omega]
theorem Pz {B:Nat} (hB:0<B) {x:α}: ∀(n:Nat) (l:List α),l.length≤n→(x∈GZ lt B l↔x∈l)
 | 0,l,h=>by
  have:l=[]:=List.length_eq_zero_iff.1 (by omega);subst this;simp [GZ,MP]
 | n+1,l,h=>by
  rw [xh hB,List.mem_append,dW];by_cases h0:l.length≤B
  ·rw [zG h0,zH h0];simp [GZ,MP]
  ·rw [Pz hB n (l.drop B) (by simp;omega),←List.mem_append,List.take_append_drop]
theorem Cq {B:Nat} {l:List α} {x:α}: ∀ {k:Nat},x∈BJ lt B l k→x∈l
 | 0,h=>by simp [BJ] at h
 | k+1,h=>by
  rw [BJ,List.mem_append] at h;rcases h with h | h
  ·exact Cq h
  ·exact List.mem_of_mem_drop (List.mem_of_mem_take ((dW _).1 h))
theorem Ri (o:SWO lt)(l:List α)(B:Nat):aT lt (aT lt (l.take B)++aT lt ((l.drop B).take B))=aT lt (l.take (2*B)):=by
 refine xY.eq o ⟨fu o _,fun a=> ?_⟩;rw [(fB o _).2,List.filter_append,(fB o _).2,(fB o _).2,←List.filter_append];congr 1
 rw [show 2*B=B+B by omega,List.take_add]
theorem qz.get {l:List α} (o:SWO lt)(h:qz lt l) {i j:Nat} {x y:α} (hij:i≤j)(hx:l[i]? =some x)(hy:l[j]? =some y):lt y x=false:=by
 obtain⟨h1,h2⟩:=zA.1 hx;obtain⟨h3,h4⟩:=zA.1 hy;rcases zN i j with h' | h'
 ·have:=List.pairwise_iff_getElem.1 h i j h1 h3 h';rw [h2,h4] at this;exact this
 ·have:i=j:=by omega
  subst this;rw [hx] at hy;injection hy with hy;rw [hy];exact o.irrefl y
theorem nO {l:List α} {k:Nat} {x:α}:x∈l.take k↔ ∃i,i<k∧l[i]? =some x:=by
 rw [List.mem_iff_getElem?];constructor
 ·rintro⟨i,hi⟩;rw [List.getElem?_take] at hi;split at hi
  ·rename_i h;exact⟨i,h,hi⟩
  ·cases hi
 ·rintro⟨i,h,hi⟩;exact⟨i,by rw [List.getElem?_take,if_pos h];exact hi⟩
theorem nN {l:List α} {k:Nat} {x:α}:x∈l.drop k↔ ∃i,k≤i∧l[i]? =some x:=by
 rw [List.mem_iff_getElem?];constructor
 ·rintro⟨i,hi⟩;rw [List.getElem?_drop] at hi;exact⟨k+i,by omega,hi⟩
 ·rintro⟨i,h,hi⟩;exact⟨i - k,by rw [List.getElem?_drop,show k+(i - k)=i by omega];exact hi⟩
theorem WN (o:SWO lt) {X Y:List α} (hX:qz lt X)(hY:qz lt Y) {k j:Nat} (hk:k≤X.length)(hj:j≤Y.length)
  (h1:k<X.length→0<j→ ∀x y,X[k]? =some x→Y[j - 1]? =some y→lt y x=true)
  (h2:0<k→j<Y.length→ ∀x y,X[k - 1]? =some x→Y[j]? =some y→lt y x=false):
  aT lt (X.take k++Y.take j)++aT lt (X.drop k++Y.drop j)=aT lt (X++Y):=by
 have e:=QM o (x1:=X.take k) (x2:=X.drop k) (y1:=Y.take j) (y2:=Y.drop j) (by rw [List.take_append_drop];exact hX) (by rw [List.take_append_drop];exact hY) ?_ ?_
 ·rw [e,List.take_append_drop,List.take_append_drop]
 ·intro x hx y hy;obtain⟨i,hi,hx⟩:=nN.1 hx;obtain⟨m,hm,hy⟩:=nO.1 hy;have hiX:=(zA.1 hx).1;obtain⟨x0,hx0⟩: ∃x0,X[k]? =some x0:=⟨_,zB (by omega)⟩;obtain⟨y0,hy0⟩: ∃y0,Y[j - 1]? =some y0:=⟨_,zB (by omega)⟩;have:=h1 (by omega) (by omega) x0 y0 hx0 hy0;exact o.lt_le (o.le_lt (hY.get o (by omega) hy hy0) this) (hX.get o hi hx0 hx)
 ·intro x hx y hy;obtain⟨i,hi,hx⟩:=nO.1 hx;obtain⟨m,hm,hy⟩:=nN.1 hy;have hmY:=(zA.1 hy).1;obtain⟨x0,hx0⟩: ∃x0,X[k - 1]? =some x0:=⟨_,zB (by omega)⟩;obtain⟨y0,hy0⟩: ∃y0,Y[j]? =some y0:=⟨_,zB (by omega)⟩;have:=h2 (by omega) (by omega) x0 y0 hx0 hy0;exact o.trans _ _ _ (hY.get o hm hy0 hy) (o.trans _ _ _ this (hX.get o (by omega) hx hx0))
theorem qz.take {l:List α} (h:qz lt l)(k:Nat):qz lt (l.take k):=List.Pairwise.sublist (List.take_sublist k l) h
theorem qz.drop {l:List α} (h:qz lt l)(k:Nat):qz lt (l.drop k):=List.Pairwise.sublist (List.drop_sublist k l) h
end
section
variable {α : Type}
theorem WV {P X R:List α} {t:Nat} (h1:P.length≤t)(h2:t<P.length+X.length):(P++(X++R))[t]? =X[t - P.length]? :=by
 rw [zD h1,zC (by omega)]
theorem WW {P X Y R:List α} {t:Nat} (h1:P.length+X.length≤t)(h2:t<P.length+X.length+Y.length):(P++(X++(Y++R)))[t]? =Y[t - (P.length+X.length)]? :=by
 rw [zD (by omega),zD (by omega),zC (by omega)];congr 1;omega
end
theorem ww {i j:Nat} (h:i+j<4611686018427387904):IntKind.i64.wrap ((IntKind.u64.wrap (IntKind.i64.wrap ((i:Int)+j))).fdiv 2)=(((i+j) / 2:Nat):Int):=by
 rw [aD (n:=(i:Int)+j) (by omega) (by omega)];have e1:IntKind.u64.wrap ((i:Int)+j)=(i:Int)+j:=by
  simp [IntKind.wrap,IntKind.signed,IntKind.bits];omega
 rw [e1,Int.fdiv_eq_ediv_of_nonneg _ (by omega),aD (by omega) (by omega)];omega
end Go.Toll
end
section
namespace Go.Toll
open Go Go.Abs
section
variable {α β : Type} {c c' : α → α → Int}
structure iV (c:α→α→Int):Prop where
 anti: ∀x y,c x y<0↔0<c y x
 trans: ∀x y z,c x y≤0→c y z≤0→c x z≤0
theorem iV.zero (o:iV c) {x y:α}:c x y=0↔c y x=0:=by
 have h1:=o.anti x y;have h2:=o.anti y x;constructor <;> intro h <;> omega
theorem iV.self (o:iV c)(x:α):c x x=0:=by
 have h1:=o.anti x x;omega
theorem iV.swo (o:iV c):SWO fun x y=>decide (c x y<0):=by
 refine⟨fun a b h=> ?_,fun x y z h1 h2=> ?_⟩
 ·have h1:=o.anti a b;simp at h ⊢;omega
 ·have a1:=o.anti x y;have a2:=o.anti y z;have a3:=o.anti x z;have a4:=o.anti y x;have a5:=o.anti z y;simp at h1 h2 ⊢;have:=o.trans z y x (by omega) (by omega);omega
theorem iV.comap (o:iV c)(f:β→α):iV fun x y=>c (f x) (f y):=⟨fun x y=>o.anti _ _,fun x y z=>o.trans _ _ _⟩
theorem iV.lex (o:iV c)(o':iV c'):iV fun x y=>if c x y=0 then c' x y else c x y:=by
 refine⟨fun x y=> ?_,fun x y z h1 h2=> ?_⟩
 ·have h1:=o.anti x y;have h2:=o.anti y x;have h3:=o'.anti x y
  skip
  by_cases h:c x y=0
  ·rw [if_pos h,if_pos (o.zero.1 h)];exact h3
  ·rw [if_neg h,if_neg (fun e=>h (o.zero.1 e))];exact h1
 ·skip
  have a1:c x y≤0:=by split at h1 <;> omega
  have a2:c y z≤0:=by split at h2 <;> omega
  have a3:=o.trans x y z a1 a2;by_cases h:c x z=0
  ·rw [if_pos h];have b1:=o.trans z x y (by rw [o.zero.1 h];omega) a1;have b2:=o.trans y z x a2 (by rw [o.zero.1 h];omega);have b3:=o.anti z y;have b4:=o.anti y x;have b5:=o.anti x y;have b6:=o.anti y z;rw [if_pos (by omega)] at h1 h2;exact o'.trans x y z h1 h2
  ·rw [if_neg h];omega
theorem sw:iV fun (_ _:α)=>0:=⟨by simp,by simp⟩
def WK (a b:Int):Int:=if a<b then -1 else if b<a then 1 else 0
theorem Ep:iV WK:=by
 refine⟨fun x y=> ?_,fun x y z h1 h2=> ?_⟩
 ·unfold WK;split <;> split <;> (try split) <;> omega
 ·unfold WK at*;split at h1 <;> split at h2 <;> (try split at h1) <;> (try split at h2) <;> (split <;> (try split) <;> omega)
end
theorem zy: ∀(a b:Bytes),Lib.compareBytes a b= -1∨Lib.compareBytes a b=0∨Lib.compareBytes a b=1
 | [],[]=>by simp [Lib.compareBytes]
 | [],_::_=>by simp [Lib.compareBytes]
 | _::_,[]=>by simp [Lib.compareBytes]
 | a::az,b::bs=>by
  rw [Lib.compareBytes];split
  ·simp
  ·split
   ·simp
   ·exact zy az bs
theorem FJ (a b:UInt8)(h1: ¬a<b)(h2: ¬b<a):a=b:=by
 rw [UInt8.lt_iff_toNat_lt] at h1 h2;exact UInt8.toNat_inj.1 (by omega)
theorem qI: ∀(a b:Bytes),Lib.compareBytes b a= - Lib.compareBytes a b
 | [],[]=>by simp [Lib.compareBytes]
 | [],_::_=>by simp [Lib.compareBytes]
 | _::_,[]=>by simp [Lib.compareBytes]
 | a::az,b::bs=>by
  rw [Lib.compareBytes,Lib.compareBytes];by_cases h1:a<b
  ·have h2: ¬b<a:=by rw [UInt8.lt_iff_toNat_lt] at h1 ⊢;omega
   simp [h1,h2]
  ·by_cases h2:b<a
   ·simp [h1,h2]
   ·simp [h1,h2];exact qI az bs
theorem Da: ∀(a b c:Bytes),Lib.compareBytes a b≤0→Lib.compareBytes b c≤0→Lib.compareBytes a c≤0
 | [],_,[]=>by simp [Lib.compareBytes]
 | [],_,_::_=>by simp [Lib.compareBytes]
 | _::_,[],_=>by simp [Lib.compareBytes]
 | _::_,_::_,[]=>by simp [Lib.compareBytes]
 | a::az,b::bs,c::cs=>by
  intro h1 h2;rw [Lib.compareBytes] at h1 h2 ⊢;by_cases h3:a<c
  ·simp [h3]
  ·by_cases h4:a<b
   ·by_cases h5:b<c
    ·exfalso;rw [UInt8.lt_iff_toNat_lt] at h3 h4 h5;omega
    ·by_cases h6:c<b
     ·simp [h5,h6] at h2
     ·have:=FJ b c h5 h6;subst this;exact absurd h4 h3
   ·by_cases h5:b<a
    ·simp [h4,h5] at h1
    ·have:=FJ a b h4 h5;subst this;by_cases h6:c<a
     ·simp [h3,h6] at h2
     ·have:=FJ a c h3 h6;subst this;simp [h4] at h1 h2 ⊢;exact Da az bs cs h1 h2
theorem ma: ∀(a b:Bytes),Lib.compareBytes a b=0↔a=b
 | [],[]=>by simp [Lib.compareBytes]
 | [],_::_=>by simp [Lib.compareBytes]
 | _::_,[]=>by simp [Lib.compareBytes]
 | a::az,b::bs=>by
  rw [Lib.compareBytes];by_cases h1:a<b
  ·have:a≠b:=by rintro rfl;rw [UInt8.lt_iff_toNat_lt] at h1;omega
   simp [h1,this]
  ·by_cases h2:b<a
   ·have:a≠b:=by rintro rfl;rw [UInt8.lt_iff_toNat_lt] at h2;omega
    simp [h1,h2,this]
   ·have:=FJ a b h1 h2;subst this;simp [h1];exact ma az bs
theorem gD: ∀(a b:Bytes),decide (Lib.compareBytes a b<0)=Op.bytesLess a b
 | [],[]=>by simp [Lib.compareBytes,Op.bytesLess]
 | [],_::_=>by simp [Lib.compareBytes,Op.bytesLess]
 | _::_,[]=>by simp [Lib.compareBytes,Op.bytesLess]
 | a::az,b::bs=>by
  rw [Lib.compareBytes,Op.bytesLess];by_cases h1:a<b
  ·simp [h1]
  ·by_cases h2:b<a
   ·have:a≠b:=by rintro rfl;exact h1 h2
    simp [h1,h2,this]
   ·have:=FJ a b h1 h2;subst this;simp [h1];simpa using gD az bs
theorem oO:iV Lib.compareBytes:=⟨fun x y=>by rw [qI x y];omega,Da⟩
end Go.Toll
end
end
section
namespace Go.Proofs.YtkpioblbeiaefaaGreat
open Go Go.Abs Go.Toll
variable {gl : aR} {h : ak}
theorem xq (b:Nat)(pre seg post:List (List AV))(hb:b<h.length)(hn: ∀e∈pre++seg++post,e.length=8)(hl:(pre++seg++post).length≤1000000)(f:FuncId)(caps:List AV)(c:List AV→List AV→Int)
  (hc: ∀x∈seg,∀y∈seg,∀o,af Tryz.prog gl f (.agg x:: .agg y::caps) (h.set b o) fun v h'=>v= .int .i64 (c x y)∧h'=h.set b o):
  af Tryz.prog gl 164 [.own b 0 (pre++seg++post).length,.int .i64 pre.length,.int .i64 (pre.length+seg.length:Nat),.fn (.func f) [] caps] (h.set b (.cells 8 (pre++seg++post)))
   fun v h'=>v= .tup []∧h'=h.set b (.cells 8 (pre++aT (fun x y=>decide (c x y<0)) seg++post)):=by
 refine af.body Tryz.f164 _ mixed Tryz.func164 rfl rfl (by simp [Tryz.ntmps164]) ?_;have hl':pre.length+seg.length+post.length≤1000000:=by simpa [Nat.add_assoc] using hl
 have ew:=aB (i:=pre.length) (by omega);simp [ew];refine aW.up mixed (seg.length+1) (fun i fr h'=>fr 0= .own b 0 (pre++seg++post).length∧fr 1= .int .i64 pre.length∧fr 2= .int .i64 (pre.length+seg.length:Nat)∧fr 3= .fn (.func f) [] caps∧fr 8= .int .i64 (pre.length+i:Nat)∧1≤i∧
  h'=h.set b (.cells 8 (pre++(aT (fun x y=>decide (c x y<0)) (seg.take i)++seg.drop i)++post))) 1 (by omega) ⟨by simp,by simp,by simp,by simp,by simp,by omega,?_⟩ ?_
 ·cases seg with
  | nil=>simp [aT]
  | cons x seg=>simp [aT,gV,gz]
 rintro i fr h' hi ⟨e0,e1,e2,e3,e8,h1i,rfl⟩;rcases zN i seg.length with hlt | hge
 ·obtain⟨x,hg,hg'⟩:=aN hlt;have hlt2:((pre.length:Int)+i)<pre.length+seg.length:=by omega
  simp [e0,e1,e2,e3,e8,hlt,hlt2];have hil:(aT (fun x y=>decide (c x y<0)) (seg.take i)).length=i:=by rw [bI];simp;omega
  generalize hL:aT (fun x y=>decide (c x y<0)) (seg.take i)=L at hil;refine aW.down mixed (fun j fr h'=>fr 0= .own b 0 (pre++seg++post).length∧fr 1= .int .i64 pre.length∧fr 2= .int .i64 (pre.length+seg.length:Nat)∧fr 3= .fn (.func f) [] caps∧fr 8= .int .i64 (pre.length+i:Nat)∧fr 9= .int .i64 (pre.length+j:Nat)∧j≤i∧
   gz (fun x y=>decide (c x y<0)) x L i=gz (fun x y=>decide (c x y<0)) x L j∧
   ∃all,h'=h.set b (.cells 8 all)∧all=sinkB pre L (seg.drop (i+1)++post) x j) i ⟨by simp [e0],by simp [e1],by simp [e2],by simp [e3],by simp [e8],by simp,by omega,rfl,_,rfl,?_⟩ ?_
  ·rw [bF hg];simp [sinkB,←hil]
  rintro j fr h' ⟨e0,e1,e2,e3,e8,e9,hj,hK,all,rfl,hall⟩;have hal:all.length=pre.length+seg.length+post.length:=by rw [hall,nR];simp;omega
  rcases Nat.eq_zero_or_pos j with rfl | hpos
  ·simp [e0,e1,e2,e3,e8,e9,hb];refine⟨by decide,ay.pure (.int .i64 0) (fun hg=>by cases hg) ?_⟩;have ewi:=aB (i:=pre.length+i) (by omega);simp at ewi;simp [e0,e1,e2,e3,e8,e9,ewi];refine⟨i+1,by omega,by omega,by simp;omega,?_⟩;rw [gG _ hg,hL,hall,gV,hil,hK];simp [sinkB,gz]
  obtain⟨k,rfl⟩: ∃k,j=k+1:=⟨j - 1,by omega⟩;have hgx:=J7 (pre:=pre) (l:=L) (post:=seg.drop (i+1)++post) (x:=x) (j:=k+1) (by omega);have hgy:=J8 (pre:=pre) (l:=L) (post:=seg.drop (i+1)++post) (x:=x) (j:=k) (by omega);obtain⟨y,hy,hy'⟩:=aN (l:=L) (i:=k) (by omega);rw [←hall] at hgx hgy;rw [hy] at hgy;have e9':fr 9= .int .i64 (pre.length+k+1:Nat):=e9;have hgx':all[pre.length+k+1]? =some x:=hgx;have hsw:=xP (pre:=pre) (post:=seg.drop (i+1)++post) (x:=x) hy;rw [←hall] at hsw;have hsw':(all.set (pre.length+k+1) y).set (pre.length+k) x=sinkB pre L (seg.drop (i+1)++post) x k:=hsw;generalize hp:pre.length+k=p at e9' hgx' hgy hsw';clear hgx e9 hsw;have p1:((pre.length:Int))<p+1:=by omega
  have p2:p+1<all.length:=by omega
  have wp:IntKind.i64.wrap (p:Int)=p:=aD (by omega) (by omega);have hxO:=hn x (by simp [zF hg]);have hx5:x.length=8:=hxO;have hys:y∈seg:=List.mem_of_mem_take ((dW _).1 (hL▸zF hy));have hxs:x∈seg:=zF hg;have hyO:=hn y (by simp [hys]);have hy5:y.length=8:=hyO;simp [e0,e1,e2,e3,e8,e9',hgx',hgy,p1,hb,wp];refine⟨by decide,⟨by omega,by omega,by omega⟩,⟨by omega,by omega⟩,⟨by omega,by omega⟩,⟨by omega,by omega⟩,?_⟩;rw [zG (by omega),zG (by omega)];refine ay.pure _ (fun _=>hc x hxs y hys _) ?_;have tx:x.take 8=x:=zG (by omega);have ty:y.take 8=y:=zG (by omega);have dx:x.drop 8=[]:=zH (by omega);have dy:y.drop 8=[]:=zH (by omega);have ewi:=aB (i:=pre.length+i) (by omega);simp at ewi;simp [e0,e1,e2,e3,e8,e9',hgx',hgy,p1,hb,wp,hx5,hy5,tx,ty,dx,dy,hsw',ewi];refine⟨fun hlt0=>⟨by decide,?_⟩,fun hge0=>⟨i+1,by omega,by omega,by simp;omega,by omega,?_⟩⟩
  ·repeat refine And.intro (by omega) ?_
   refine⟨k,by omega,by omega,by omega,?_,rfl⟩;rw [hK,gz,hy];simp [hlt0]
  ·have hk2:gz (fun x y=>decide (c x y<0)) x L i=k+1:=by
    rw [hK,gz,hy];simp [show ¬c x y<0 by omega]
   rw [gG _ hg,hL,hall,gV,hil,hk2];simp [sinkB]
 ·have hge2: ¬((pre.length:Int)+i)<pre.length+seg.length:=by omega
  simp [e0,e1,e2,e3,e8,hge2];rw [zG (by omega),zH (by omega)];rfl
theorem Gw (b:Nat)(seg:List (List AV))(hb:b<h.length)(hn: ∀e∈seg,e.length=8)(hl:seg.length<20)(f:FuncId)(caps:List AV)(c:List AV→List AV→Int)
  (hc: ∀x∈seg,∀y∈seg,∀o,af Tryz.prog gl f (.agg x:: .agg y::caps) (h.set b o) fun v h'=>v= .int .i64 (c x y)∧h'=h.set b o):
  af Tryz.prog gl 132 [.own b 0 seg.length,.int .i64 seg.length,.fn (.func f) [] caps] (h.set b (.cells 8 seg))
   fun v h'=>v= .tup []∧h'=h.set b (.cells 8 (aT (fun x y=>decide (c x y<0)) seg)):=by
 refine af.body Tryz.f132 _ mixed Tryz.func132 rfl rfl (by simp [Tryz.ntmps132]) ?_;have h1: ¬(20:Int)≤seg.length:=by omega
 have h2: ¬(20:Int)<seg.length:=by omega
 simp;refine aW.up mixed 0 (fun i fr h'=>fr 0= .own b 0 seg.length∧fr 1= .int .i64 seg.length∧fr 2= .fn (.func f) [] caps∧fr 6= .int .i64 20∧fr 7= .int .i64 0∧fr 8= .int .i64 20∧h'=h.set b (.cells 8 seg)) 0 (by omega) ⟨by simp,by simp,by simp,by simp,by simp,by simp,rfl⟩ ?_;rintro i fr h' hi ⟨e0,e1,e2,e6,e7,e8,rfl⟩;simp [e0,e1,e2,e6,e7,e8,h1];have:=xq (gl:=gl) b [] seg [] hb (by simpa using hn) (by simp;omega) f caps c hc;simp at this;refine ay.any this ?_;rintro v h' ⟨rfl,rfl⟩;simp [e0,e1,e2,e6,e7,e8];refine aW.up mixed 0 (fun i fr h'=>fr 1= .int .i64 seg.length∧fr 6= .int .i64 20∧h'=h.set b (.cells 8 (aT (fun x y=>decide (c x y<0)) seg))) 0 (by omega) ⟨by simp [e1],by simp [e6],rfl⟩ ?_;rintro i fr h' hi ⟨e1,e6,rfl⟩;simp [e1,e6,h2]
theorem xX (b:Nat)(seg:List (List AV))(hb:b<h.length)(hn: ∀e∈seg,e.length=8)(hl:seg.length<20)(f:FuncId)(caps:List AV)(c:List AV→List AV→Int)
  (hc: ∀x∈seg,∀y∈seg,∀o,af Tryz.prog gl f (.agg x:: .agg y::caps) (h.set b o) fun v h'=>v= .int .i64 (c x y)∧h'=h.set b o):
  af Tryz.prog gl 100 [.own b 0 seg.length,.fn (.func f) [] caps] (h.set b (.cells 8 seg))
   fun v h'=>v= .tup []∧h'=h.set b (.cells 8 (aT (fun x y=>decide (c x y<0)) seg)):=by
 refine af.body Tryz.f100 _ mixed Tryz.func100 rfl rfl (by simp [Tryz.ntmps100]) ?_;simp;refine ay.any (Gw b seg hb hn hl f caps c hc) ?_;rintro v h' ⟨rfl,rfl⟩;simp
end Go.Proofs.YtkpioblbeiaefaaGreat
end
section
namespace Go.Toll
open Go Go.Abs
def strOf:AV→Bytes
 | .str s=>s
 | _=>[]
theorem Lf {α β:Type} {f:α→β} {lt:α→α→Bool} {lt':β→β→Bool} (h: ∀x y,lt' (f x) (f y)=lt x y)(x:α)(l:List α): ∀k,gz lt' (f x) (l.map f) k=gz lt x l k
 | 0=>rfl
 | k+1=>by
  simp only [gz,List.getElem?_map]
  cases l[k]? with
  | none=>rfl
  | some y=>simp only [Option.map_some,h,Lf h x l k]
theorem IC {α β:Type} {f:α→β} {lt:α→α→Bool} {lt':β→β→Bool} (h: ∀x y,lt' (f x) (f y)=lt x y)(l:List α):aT lt' (l.map f)=(aT lt l).map f:=by
 have: ∀(l acc:List α),(l.map f).foldl (fun acc x=>gV lt' x acc) (acc.map f)=(l.foldl (fun acc x=>gV lt x acc) acc).map f:=by
  intro l
  induction l with
  | nil=>intro acc;rfl
  | cons x l ih=>
   intro acc;simp only [List.map_cons,List.foldl_cons];rw [←ih];congr 1
   simp [gV,Lf h,List.map_take,List.map_drop]
 simpa [aT] using this l []
end Go.Toll
end
section
namespace Go.Abs
open Go Go.ChangeShapes Go.WideShapes Go.RowKit
inductive Sh where
 | bool | int (k:IntKind) | str | sl (e:Sh) | st (f:Sh) | none | cons (a r:Sh)
def Sh.n:Sh→Nat
 | .st f=>f.n
 | .none=>0
 | .cons a r=>a.n+r.n
 | _=>1
def Sh.ok:Sh→List AV→Prop
 | .bool,es=> ∃b,es=[.bool b]
 | .int k,es=> ∃n,es=[.int k n]∧(Lit.int k n).wf=true
 | .str,es=> ∃s:List UInt8,es=[.str s]∧s.length≤maxLen
 | .sl e,es=> ∃l:List (List AV),es=[.ro l]∧l.length≤maxLen∧ ∀x∈l,e.ok x
 | .st f,es=>f.ok es
 | .none,es=>es=[]
 | .cons a r,es=> ∃x y,es=x++y∧a.ok x∧r.ok y
def Sh.isTy:Sh→Bool
 | .none | .cons _ _=>false
 | _=>true
def Sh.is (P:Program):Sh→TypeId→List Field→Nat→Bool
 | .bool,t,_,_=>match P.underlying t with | some .bool=>true | _=>false
 | .int k,t,_,_=>match P.underlying t with | some (.int k')=>decide (k'=k) | _=>false
 | .str,t,_,_=>match P.underlying t with | some .string=>true | _=>false
 | .sl e,t,_,_=>match P.underlying t with | some (.slice u)=>e.is P u [] 0 && decide (e.n=P.cellsOf u) && decide (0<e.n) | _=>false
 | .st f,t,_,_=>match P.underlying t with | some (.struct fs)=> !f.isTy && f.is P 0 fs.toList 0 && decide (f.n=P.cellsOf t) | _=>false
 | .none,_,fs,_=>fs.isEmpty
 | .cons a r,_,fs,o=>match fs with
  | f::fs'=>decide (f.offset=o) && a.is P f.type [] 0 && decide (a.n=P.cellsOf f.type) && r.is P 0 fs' (o+a.n) && a.isTy && !r.isTy
  | []=>false
def I1 (J:List eF)(O:Nat→Prop)(w:World)(es:List AV)(cs:List Value):Prop:=
 es.length=cs.length∧ ∀(i:Nat) (x:AV) (v:Value),es[i]? =some x→cs[i]? =some v→aQ J O w x v∧v.oneCell'=true
theorem I1.one {J:List eF} {O:Nat→Prop} {w:World} {x:AV} {v:Value} (h:aQ J O w x v)(h1:v.oneCell'=true):I1 J O w [x] [v]:=by
 refine⟨rfl,fun i y u hy hu=> ?_⟩
 cases i with
 | zero=>simp at hy hu;subst hy;subst hu;exact⟨h,h1⟩
 | succ i=>simp at hy
theorem I1.append {J:List eF} {O:Nat→Prop} {w:World} {a b:List AV} {c d:List Value} (h:I1 J O w a c)(h':I1 J O w b d):I1 J O w (a++b) (c++d):=by
 refine⟨by simp [h.1,h'.1],fun i x v hx hv=> ?_⟩;by_cases hi:i<a.length
 ·rw [zC hi] at hx;rw [zC (by rw [←h.1];exact hi)] at hv;exact h.2 i x v hx hv
 ·rw [zD (by omega)] at hx;rw [zD (by rw [←h.1];omega),←h.1] at hv;exact h'.2 _ x v hx hv
section
variable {H : Type} {enc : TypeId × Value → H} {P : Program} {w : World} {O : Nat → Prop} {J : List eF}
theorem Ed {α β:Type} {f:α→Option β} {x:α} {l:List α} {r:List β} (h:(x::l).mapM f=some r): ∃y r',f x=some y∧l.mapM f=some r'∧r=y::r':=by
 rw [List.mapM_cons] at h
 cases hx:f x with
 | none=>simp [hx] at h
 | some y=>
  cases hl:l.mapM f with
  | none=>simp [hx,hl] at h
  | some r'=>
   simp [hx,hl] at h;exact⟨y,r',rfl,rfl,h.symm⟩
def Ib (sh:Sh)(x:AV):Prop:=match sh with | .st f=> ∃es,x= .agg es∧f.ok es | sh=>sh.ok [x]
def En:List Sh→List AV→Prop
 | [],xs=>xs=[]
 | sh::shs,xs=> ∃x r,xs=x::r∧Ib sh x∧En shs r
def zZ (P:Program):List Sh→List TypeId→Bool
 | [],[]=>true
 | sh::shs,t::ts=>sh.isTy && sh.is P t [] 0 && zZ P shs ts
 | _,_=>false
theorem okWide_slice {r:Reach} {b0:Nat} {t e:TypeId} {v:Value} (ht:P.underlying t=some (.slice e))(hval:Value.okWide P w r b0 t v):v.oneCell'=true:=by
 cases v <;> simp [Value.okWide,Cell.okWide,Cell.ok,ht] at hval <;> rfl
end
section
variable {H : Type} {enc : TypeId × Value → H} {P : Program} {W W' : World}
theorem Ob (K:Kids P (· <P.types.size))(hz: ∀t e,t<P.types.size→P.underlying t=some (.slice e)→0<P.cellsOf e)(hold: ∀r,r<W.heap.size→W'.heap[r]? =W.heap[r]?) {sp:Nat→Bool}:
  ∀ {ts:List TypeId} {vs:List Value} {ds:List (DataW H)} {ps:List MemPlace},(∀t∈ts,t<P.types.size)→DataW.TrodAll enc P W 0 (fun _=>true) true ts vs ds ps→(∀p∈ps,sp p.block=true)→
   DataW.TrodAll enc P W' 0 sp true ts vs ds ps:=by
 intro ts vs ds ps hT h hs;refine DataW.TrodAll.respare K hz hT ?_ hs;clear hs
 revert vs ds ps hT
 induction ts with
 | nil=>
  intro vs ds ps _ h;obtain⟨rfl,rfl,rfl⟩:=trodAll_nil h;rfl
 | cons t ts ih=>
  intro vs ds ps hT h;obtain⟨v,vs1,d,ds1,a,b,rfl,rfl,rfl,⟨n,h1⟩,h2⟩:=trodAll_cons h;refine⟨a,b,⟨n,DataW.trod_carry n _ _ _ h1 fun p hp=> ?_⟩,ih (fun t ht=>hT t (.tail _ ht)) h2,rfl⟩;have hlt:=DataW.trod_lt n _ _ _ h1 p hp;have:=hold _ hlt
  cases p with
  | cell b off=>exact World.cell?_of_block this
  | map b=>exact this
end
end Go.Abs
end
section
namespace Go.Toll
open Go Go.Abs
def EY:Sh→List Value
 | .bool=>[.bool false]
 | .int k=>[.int k 0]
 | .str=>[.string ⟨#[]⟩]
 | .sl _=>[.slice none 0 0]
 | .st f=>EY f
 | .none=>[]
 | .cons a r=>EY a++EY r
def V4:Sh→Value
 | .st f=> .agg (EY f).toArray
 | s=>(EY s).headD undef
def ZC (n:Int):Prop:= -9223372036854775808≤n∧n≤9223372036854775807
theorem wf_i64 {n:Int} (h:(Lit.int .i64 n).wf=true):ZC n:=by
 simpa [ZC,Lit.wf,IntKind.min,IntKind.max,IntKind.signed,IntKind.bits] using h
theorem Sc {α:Type} {enc:α→List AV} {Q:α→Prop} {l:List (List AV)} (h: ∀e∈l,∃x,e=enc x∧Q x): ∃xs:List α,l=xs.map enc∧ ∀x∈xs,Q x:=by
 induction l with
 | nil=>exact⟨[],rfl,by simp⟩
 | cons e l ih=>
  obtain⟨x,rfl,hx⟩:=h e (by simp);obtain⟨xs,rfl,hxs⟩:=ih fun e he=>h e (by simp [he]);exact⟨x::xs,rfl,by simpa using ⟨hx,hxs⟩⟩
def RQ:Sh:= .int .i64
def ZA (a b:Sh):Sh:= .st (.cons a (.cons b .none))
def ZZ (a b c:Sh):Sh:= .st (.cons a (.cons b (.cons c .none)))
def sh4 (a b c d:Sh):Sh:= .st (.cons a (.cons b (.cons c (.cons d .none))))
theorem NT {a b:Sh} {es:List AV} (h:(ZA a b).ok es): ∃x y,es=x++y∧a.ok x∧b.ok y:=by
 obtain⟨x,_,rfl,h1,y,_,rfl,h2,rfl⟩:=h;exact⟨x,y,by simp,h1,h2⟩
theorem Te {a b c:Sh} {es:List AV} (h:(ZZ a b c).ok es): ∃x y z,es=x++(y++z)∧a.ok x∧b.ok y∧c.ok z:=by
 obtain⟨x,_,rfl,h1,y,_,rfl,h2,z,_,rfl,h3,rfl⟩:=h;exact⟨x,y,z,by simp,h1,h2,h3⟩
theorem Xn {a b c d:Sh} {es:List AV} (h:(sh4 a b c d).ok es): ∃x y z u,es=x++(y++(z++u))∧a.ok x∧b.ok y∧c.ok z∧d.ok u:=by
 obtain⟨x,_,rfl,h1,y,_,rfl,h2,z,_,rfl,h3,u,_,rfl,h4,rfl⟩:=h;exact⟨x,y,z,u,by simp,h1,h2,h3,h4⟩
theorem LG {es:List AV} (h:RQ.ok es): ∃n,es=[.int .i64 n]∧ZC n:=by
 obtain⟨n,rfl,h⟩:=h;exact⟨n,rfl,wf_i64 h⟩
theorem Gj {es:List AV} (h:Sh.str.ok es): ∃s:Bytes,es=[.str s]∧s.length≤maxLen:=h
theorem Tc {α:Type} {enc:α→List AV} {Q:α→Prop} {e:Sh} {es:List AV} (h:(Sh.sl e).ok es)(hd: ∀es,e.ok es→ ∃x,es=enc x∧Q x): ∃l:List α,es=[.ro (l.map enc)]∧l.length≤maxLen∧ ∀x∈l,Q x:=by
 obtain⟨l,rfl,hl,h⟩:=h;obtain⟨xs,rfl,hx⟩:=Sc fun e he=>hd e (h e he);exact⟨xs,rfl,by simpa using hl,hx⟩
theorem Yp {α:Type} {enc:α→List AV} {Q:α→Prop} {e:Sh} {x:AV} (h:Ib (.sl e) x)(hd: ∀es,e.ok es→ ∃x,es=enc x∧Q x): ∃l:List α,x= .ro (l.map enc)∧l.length≤maxLen∧ ∀x∈l,Q x:=by
 obtain⟨l,h,hl⟩:=Tc h hd;exact⟨l,by simpa using h,hl⟩
theorem Yq {α:Type} {enc:α→List AV} {Q:α→Prop} {f:Sh} {x:AV} (h:Ib (.st f) x)(hd: ∀es,(Sh.st f).ok es→ ∃x,es=enc x∧Q x): ∃y:α,x= .agg (enc y)∧Q y:=by
 obtain⟨es,rfl,h⟩:=h;obtain⟨y,rfl,hy⟩:=hd es h;exact⟨y,rfl,hy⟩
end Go.Toll
end
