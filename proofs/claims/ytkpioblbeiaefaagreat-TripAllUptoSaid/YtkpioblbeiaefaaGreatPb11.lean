/- Part 11 of the lemmas below the statements of this seat: TollSeen, TollMove, TollInfer, TollTrip, TripA, TripB, TollSeenShape, TollPass. -/
import Derived.Test.YtkpioblbeiaefaaGreatPb10
set_option linter.unusedSectionVars false
set_option linter.unusedVariables false
set_option linter.unusedSimpArgs false
set_option linter.unnecessarySimpa false
set_option maxRecDepth 100000
section
namespace Go.Toll
open Go Go.Abs
structure aC where
 id:Bytes
 point:Bytes
 time:Int
 tag:Bytes
 plate:Bytes
 cls:Int
 score:Int
 sources:List (List AV)
def aj (p:aC):List AV:=[.str p.id,.str p.point,.int .i64 p.time,.str p.tag,.str p.plate,.int .i64 p.cls,.int .i64 p.score,.ro p.sources]
@[simp] theorem VI (s:aC):(aj s).length=8:=rfl
@[simp] theorem dK (p:aC):aj p=[.str p.id,.str p.point,.int .i64 p.time,.str p.tag,.str p.plate,.int .i64 p.cls,.int .i64 p.score,.ro p.sources]:=rfl
def fU (s:Bytes):Prop:=s.length≤9223372036854775807
theorem QD (a b:UInt8)(x y:Bytes):Op.bytesLess (a::x) (b::y)=(decide (a<b) || (a==b && Op.bytesLess x y)):=rfl
theorem QE {a b:Bytes} {i:Nat} {x y:UInt8} (hx:a[i]? =some x)(hy:b[i]? =some y):Op.bytesLess (a.drop i) (b.drop i)=(decide (x<y) || (x==y && Op.bytesLess (a.drop (i+1)) (b.drop (i+1)))):=by
 rw [bF hx,bF hy,QD]
theorem Sr {a b:Bytes} {i:Nat} (h:a.length≤i∨b.length≤i)(ha:i≤a.length)(hb:i≤b.length):Op.bytesLess (a.drop i) (b.drop i)=decide (a.length<b.length):=by
 rcases h with h | h
 ·rw [zH h];rcases zN i b.length with h1 | h1
  ·obtain⟨y,hy,_⟩:=aN h1;rw [bF hy];have:a.length<b.length:=by omega
   simp [Op.bytesLess,this]
  ·rw [zH h1];have: ¬a.length<b.length:=by omega
   simp [Op.bytesLess,this]
 ·rw [zH h];have: ¬a.length<b.length:=by omega
  cases a.drop i <;> simp [Op.bytesLess,this]
theorem aaq (x y:UInt8):((x.toNat:Int)=(y.toNat:Int))=(x=y):=propext ⟨fun e=>UInt8.toNat_inj.1 (by omega),fun e=>by rw [e]⟩
end Go.Toll
end
section
section
namespace Go.Toll
open Go Go.Abs
theorem oZ (t:bn):cO (aI t).net=(aI t).net:=by rw [cO,if_pos (fC t)]
theorem PL (t:bn):aY (aI t).net:=vQ (fC t)
def gK (s t:Int):Bool:=bS s && bS t && decide (s<t)
def rJ (v:bv)(dt:Int)(q:List Bytes):Bool:=decide ((bN v q).2.2=0∧(bN v q).1≤dt∧dt≤(bN v q).2.1)
def TR (v:bv)(a b:Bytes)(dt:Int):List (List Bytes):=(eH v a b).1.filter (rJ v dt)
def dD (v:bv)(a b:Bytes)(s t:Int):List (List Bytes)×Int:=
 if (aL v.pts a && aL v.pts b)=false then ([],16)
 else if gK s t=false then ([],12)
 else if (eH v a b).2≠0 then ([],(eH v a b).2)
 else if TR v a b (t - s)=[] then ([],21) else (TR v a b (t - s),0)
def si (v:bv)(a b:Bytes):Int:=if a=b then 60 else match jf v a b with
 | some (_,d)=>d
 | none=>300
def tJ (v:bv)(a b:Bytes)(s t:Int):Bool:=aL v.pts a && aL v.pts b && gK s t && decide (si v a b≤t - s)
section
variable {v : bv}
theorem NI (ok:aY v)(a b:Bytes):1≤si v a b:=by
 unfold si;split
 ·omega
 ·rename_i hab;rcases CX ok a b with⟨l,d,e,hb,_⟩ | ⟨e,_⟩
  ·rw [e];obtain⟨s,h1,h2⟩:=hb.walk;have h3:=(vF ok h1).1;have hl:l≠[]:=by rintro rfl;exact hab hb.ends
   have:=List.length_pos_iff.2 hl;show 1≤d;omega
  ·rw [e];show (1:Int)≤300;omega
theorem yX (ok:aY v) {a b:Bytes} {s t:Int} {q:List Bytes} (h:q∈(dD v a b s t).1):
  ∃l w,CF v a b q l w∧w.1≤t - s∧t - s≤w.2∧gK s t=true∧aL v.pts a=true∧aL v.pts b=true:=by
 unfold dD at h;split at h
 ·cases h
 rename_i h1;split at h
 ·cases h
 rename_i h2;split at h
 ·cases h
 split at h
 ·cases h
 obtain⟨h3,h4⟩:=List.mem_filter.1 h;obtain⟨i,hi,e⟩:=List.mem_iff_getElem.1 h3;obtain⟨l,w,hp⟩:=JN ok (a:=a) (b:=b) (i:=i) (q:=q) (by rw [zB hi,e]);have h5:=of_decide_eq_true h4;rw [hp.bnd] at h5;rw [Bool.not_eq_false,Bool.and_eq_true] at h1;exact⟨l,w,hp,h5.2.1,h5.2.2,by simpa using h2,h1.1,h1.2⟩
theorem xN (ok:aY v) {a b:Bytes} {s t:Int} {q:List Bytes} (h:q∈(dD v a b s t).1):tJ v a b s t=true∧2≤q.length:=by
 obtain⟨l,w,hp,h1,h2,h3,ha,hb⟩:=yX ok h;have hlt:s<t:=by
  unfold gK at h3;rw [Bool.and_eq_true] at h3;exact of_decide_eq_true h3.2
 have hl:l≠[]:=by
  rintro rfl;have:=hp.walk;rw [wk] at this;injection this with this;rw [←this] at h2;have:t - s≤0:=h2;omega
 have hab:a≠b:=by
  intro e;have h5:=hp.nd;rw [hp.eq] at h5;have h6:=qK a l;obtain⟨x,r,rfl⟩:=List.exists_cons_of_ne_nil hl;have h7:eG a (x::r)∈x::r:=qK x r;rw [hp.ends,←e] at h7;exact (List.nodup_cons.1 h5).1 h7
 refine⟨?_,by rw [hp.eq];have:=List.length_pos_iff.2 hl;simp;omega⟩;unfold tJ;rw [ha,hb,h3];simp only [Bool.and_self,Bool.true_and,decide_eq_true_eq];unfold si;rw [if_neg hab];rcases CX ok a b with⟨l',d,e,hbest,_⟩ | ⟨e,hno⟩
 ·rw [e];have:=(P9 hbest hp).1;show d≤t - s;omega
 ·exact absurd ⟨l,w,hp.walk,hp.ends⟩ (hno ha hb)
end
end Go.Toll
end
section
namespace Go.Toll
open Go Go.Abs
end Go.Toll
end
end
section
section
namespace Go.Toll
open Go Go.Abs
theorem uo {v:bv} {p:List Bytes} (h:(bN v p).2.2=0): ∃a l s,p=a::l∧(∀z∈a::l,aL v.pts z=true)∧wk v a l=some s∧bN v p=(s.1,s.2,0):=by
 cases p with
 | nil=>simp [bN] at h
 | cons a l=>
  by_cases hall:(a::l).all (aL v.pts)=true
  ·have hall2:=List.all_eq_true.1 hall;rw [kr hall2] at h
   cases hw:wk v a l with
   | none=>rw [hw] at h;simp at h
   | some s=>exact⟨a,l,s,rfl,hall2,hw,by rw [kr hall2,hw]⟩
  ·rw [bN,if_neg hall] at h;simp at h
def fF (v:bv)(p:List Bytes)(k:Nat):Nat:=(bN v (p.take k)).1.toNat
theorem pI {v:bv} (ok:aY v) {p:List Bytes} (h:(bN v p).2.2=0) {k:Nat} (hk:1≤k)(hkp:k≤p.length):
  (bN v (p.take k)).2.2=0∧(bN v (p.take k)).1=(fF v p k:Int)∧fF v p k≤fF v p p.length:=by
 obtain⟨a,l,s,rfl,hall,hw,hb⟩:=uo h;obtain⟨j,rfl⟩: ∃j,k=j+1:=⟨k - 1,by omega⟩;have hsp:l=l.take j++l.drop j:=(List.take_append_drop j l).symm;rw [hsp] at hw;obtain⟨t,u,h1,h2,rfl⟩:=mY.1 hw;have r1:=vF ok h1;have r2:=vF ok h2;have hall2: ∀z∈a::l.take j,aL v.pts z=true:=fun z hz=>hall z (by
  rcases List.mem_cons.1 hz with rfl | hz
  ·simp
  ·exact List.mem_cons_of_mem _ (List.mem_of_mem_take hz))
 have hb2:bN v ((a::l).take (j+1))=(t.1,t.2,0):=by rw [List.take_succ_cons,kr hall2,h1]
 have hl0:=Int.natCast_nonneg (l.take j).length;have hl1:=Int.natCast_nonneg (l.drop j).length;refine⟨by rw [hb2],?_,?_⟩
 ·rw [fF,hb2];show t.1=(t.1.toNat:Int);omega
 ·rw [fF,fF,hb2,List.take_length,hb];show t.1.toNat≤(t.1+u.1).toNat;omega
theorem Cn {v:bv} (ok:aY v) {p:List Bytes} (h:(bN v p).2.2=0)(hp:p.length≤16):(bN v p).1=(fF v p p.length:Int)∧fF v p p.length<68719476736∧(2≤p.length→1≤fF v p p.length)∧fF v p 1=0∧1≤p.length:=by
 obtain⟨a,l,s,rfl,hall,hw,hb⟩:=uo h;obtain⟨r1,r2,r3⟩:=vF ok hw;have hl0:=Int.natCast_nonneg l.length;have hll:(l.length:Int)≤15:=by simp at hp;omega
 have h1:fF v (a::l) 1=0:=by
  have:bN v ((a::l).take 1)=(0,0,0):=by
   rw [List.take_succ_cons,List.take_zero,kr (fun z hz=>hall z (by simp at hz;simp [hz])),Uq]
  rw [fF,this];rfl
 have e:fF v (a::l) (a::l).length=s.1.toNat:=by rw [fF,List.take_length,hb]
 rw [e,hb];refine⟨by show s.1=(s.1.toNat:Int);omega,by omega,fun h2=> ?_,h1,by simp⟩;have:(1:Int)≤l.length:=by simp at h2;omega
 omega
def dR (v:bv)(p:List Bytes)(s t:Int)(k:Nat):Int:=s+(((t - s).toNat* fF v p (k+1) / fF v p p.length:Nat):Int)
def oW (v:bv)(p:List Bytes)(s t:Int):List Int:=(List.range p.length).map (dR v p s t)
def AA (v:bv)(p:List Bytes)(s t:Int):List Int×Int:=
 if 16<p.length then ([],3)
 else if (bS s && bS t && decide (s≤t))=false then ([],12)
 else if (bN v p).2.2≠0 then ([],(bN v p).2.2) else (oW v p s t,0)
def jG (n:Int):List AV:=[.int .i64 n]
@[simp] theorem X5 (n:Int):(jG n).length=1:=rfl
def mX (v:bv)(p:List Bytes)(s t:Int)(k:Nat):List Int:=(List.range k).map (dR v p s t)
theorem p9 (v:bv)(p:List Bytes)(s t:Int)(k:Nat):mX v p s t (k+1)=mX v p s t k++[dR v p s t k]:=by rw [mX,List.range_succ,List.map_append];rfl
theorem Fv (v:bv)(p:List Bytes)(s t:Int)(k:Nat):(mX v p s t k).length=k:=by simp [mX]
theorem Fu (v:bv)(p:List Bytes)(s t:Int):mX v p s t p.length=oW v p s t:=rfl
def uL (q:List Bytes):List Bytes:=(q.take (q.length - 1)).drop 1
def fP (v:bv)(a b:Bytes)(s t:Int):List Bytes×Int:=
 if (dD v a b s t).2≠0 then ([],(dD v a b s t).2)
 else if 1<(dD v a b s t).1.length then ([],11) else (uL ((dD v a b s t).1.headD []),0)
theorem NA {a:Bytes} {l:List Bytes} {b:Bytes} (hl:l≠[])(he:eG a l=b):a::l=a::(uL (a::l)++[b]):=by
 rcases List.eq_nil_or_concat l with rfl | ⟨m,x,rfl⟩
 ·exact absurd rfl hl
 ·have hx:x=b:=by rw [←he];simp only [List.concat_eq_append];exact (gJ a m x).symm
  subst hx;simp [uL]
theorem Oj {v:bv} (a b:Bytes)(s t:Int):(dD v a b s t).2=0→(dD v a b s t).1≠[]:=by
 unfold dD;split
 ·simp
 split
 ·simp
 split
 ·rename_i h;exact fun e=>absurd e h
 split
 ·simp
 ·rename_i h;exact fun _=>h
theorem yH {v:bv} (ok:aY v) {a b:Bytes} {s t:Int} (h:(fP v a b s t).2=0):
  (bN v (a::((fP v a b s t).1++[b]))).2.2=0∧(a::((fP v a b s t).1++[b])).length≤16∧bS s=true∧bS t=true∧s<t∧
   AA v (a::((fP v a b s t).1++[b])) s t=(oW v (a::((fP v a b s t).1++[b])) s t,0)∧ ∃q,(dD v a b s t)=([q],0)∧q=a::((fP v a b s t).1++[b]):=by
 by_cases h1:(dD v a b s t).2=0
 ·by_cases h2:1<(dD v a b s t).1.length
  ·rw [fP,if_neg (by simp [h1]),if_pos h2] at h;cases h
  ·have hne:=Oj a b s t h1;obtain⟨q,r,hqr⟩:=List.exists_cons_of_ne_nil hne;have hr:r=[]:=by
    rw [hqr] at h2
    cases r with
    | nil=>rfl
    | cons x r=>simp at h2
   subst hr;have hq:q∈(dD v a b s t).1:=by rw [hqr];simp
   obtain⟨l,w,hp,_,_,hlat,_,_⟩:=yX ok hq;obtain⟨_,hq2⟩:=xN ok hq;have hl:l≠[]:=by rintro rfl;rw [hp.eq] at hq2;simp at hq2
   have hm:(fP v a b s t).1=uL q:=by rw [fP,if_neg (by simp [h1]),if_neg h2,hqr];rfl
   have hpath:a::((fP v a b s t).1++[b])=q:=by rw [hm,hp.eq];exact (NA hl hp.ends).symm
   rw [hpath];have hb:(bN v q).2.2=0:=by rw [hp.bnd]
   have hlat':(bS s=true∧bS t=true)∧s<t:=by
    unfold gK at hlat;simpa [Bool.and_eq_true] using hlat
   have hlen:=hp.len;refine⟨hb,hlen,hlat'.1.1,hlat'.1.2,hlat'.2,?_,q,?_,rfl⟩
   ·rw [AA,if_neg (by omega),if_neg (by rw [hlat'.1.1,hlat'.1.2,decide_eq_true (by omega:s≤t)];simp),if_neg (by simp [hb])]
   ·have:dD v a b s t=((dD v a b s t).1,(dD v a b s t).2):=rfl;rw [this,hqr,h1]
 ·rw [fP,if_pos h1] at h;exact absurd h h1
structure bq where
 point:Bytes
 time:Int
 pass:Bytes
deriving DecidableEq
def aa (x:bq):List AV:=[.str x.point,.int .i64 x.time,.str x.pass]
@[simp] theorem VK (x:bq):(aa x).length=3:=rfl
def lC (v:bv)(m:List Bytes)(a b:aC)(k:Nat):List bq:=(List.range k).map fun i=>⟨m.getD i [],dR v (a.point::(m++[b.point])) a.time b.time (i+1),[]⟩
def ni (v:bv)(a b:aC):List bq:=
 if (fP v a.point b.point a.time b.time).2≠0 then [] else lC v (fP v a.point b.point a.time b.time).1 a b (fP v a.point b.point a.time b.time).1.length
theorem CY (v:bv)(m:List Bytes)(a b:aC)(k:Nat):lC v m a b (k+1)=lC v m a b k++[⟨m.getD k [],dR v (a.point::(m++[b.point])) a.time b.time (k+1),[]⟩]:=by rw [lC,List.range_succ,List.map_append];rfl
theorem zt (v:bv)(m:List Bytes)(a b:aC)(k:Nat):(lC v m a b k).length=k:=by simp [lC]
theorem SL {v:bv} (ok:aY v)(a b:Bytes)(s t:Int):(fP v a b s t).1.length≤16:=by
 by_cases h:(fP v a b s t).2=0
 ·have:=(yH ok h).2.1;simp at this;omega
 ·have:(fP v a b s t).1=[]:=by
   unfold fP at h ⊢;split
   ·rfl
   ·split
    ·rfl
    ·rename_i h1 h2;rw [if_neg h1,if_neg h2] at h;exact absurd rfl h
  rw [this];simp
theorem zu {v:bv} (ok:aY v)(a b:aC):(ni v a b).length≤16:=by
 unfold ni;split
 ·simp
 ·rw [zt];exact SL ok _ _ _ _
def iX (p:aC):bq:=⟨p.point,p.time,p.id⟩
def dP (v:bv)(l:List aC):Nat→List bq
 | 0=>[]
 | i+1=>match l[i]? with
  | some p=>dP v l i++((match i with | 0=>[] | j+1=>(match l[j]? with | some a=>ni v a p | none=>[]))++[iX p])
  | none=>dP v l i
theorem Bv {v:bv} {l:List aC} {p:aC} (h:l[0]? =some p):dP v l 1=[iX p]:=by simp [dP,h]
theorem Bu {v:bv} {l:List aC} {j:Nat} {a p:aC} (ha:l[j]? =some a)(hp:l[j+1]? =some p):dP v l (j+1+1)=dP v l (j+1)++(ni v a p++[iX p]):=by
 rw [dP,hp];simp only [ha]
theorem sV {v:bv} (ok:aY v) {l:List aC}: ∀i:Nat,(dP v l i).length≤17*i
 | 0=>by simp [dP]
 | i+1=>by
  have ih:=sV ok (l:=l) i;rw [dP];split
  ·rename_i p _
   cases i with
   | zero=>simp [dP]
   | succ j=>
    simp only;split
    ·rename_i a _;have:=zu ok a p;simp;omega
    ·simp;omega
  ·omega
instance (before:Option aC)(p:aC):Decidable (∃a,before=some a∧p.time≤a.time):=match before with
 | none=>isFalse (by rintro⟨a,e,_⟩;cases e)
 | some a=>if h:p.time≤a.time then isTrue ⟨a,rfl,h⟩ else isFalse (by rintro⟨b,e,h2⟩;cases e;exact h h2)
def gP (v:bv)(before:Option aC):List aC→Int
 | []=>0
 | p::l=>if aL v.pts p.point=false then 16 else if bS p.time=false then 12 else if (∃a,before=some a∧p.time≤a.time) then 15 else gP v (some p) l
def gT (v:bv)(l:List aC):Int:=if 1024<l.length then 3 else gP v none l
def fV (v:bv)(l:List aC):List bq×Int:=if gT v l≠0 then ([],gT v l) else (dP v l l.length,0)
def yg (l:List aC)(i:Nat):Option aC:=match i with
 | 0=>none
 | j+1=>l[j]?
theorem nQ {v:bv} {l:List aC} {i:Nat} {p:aC} (h:l[i]? =some p):gP v (yg l i) (l.drop i)=if aL v.pts p.point=false then 16 else if bS p.time=false then 12 else if (∃a,yg l i=some a∧p.time≤a.time) then 15 else gP v (yg l (i+1)) (l.drop (i+1)):=by
 rw [bF h,gP,show yg l (i+1)=some p from h]
end Go.Toll
end
section
namespace Go.Toll
open Go Go.Abs
end Go.Toll
end
section
namespace Go.Toll
open Go Go.Abs
section
variable {v : bv} {p : List Bytes} {s t : Int}
theorem low_mono (ok:aY v)(h:(bN v p).2.2=0) {j k:Nat} (h1:1≤j)(h2:j≤k)(h3:k≤p.length):fF v p j≤fF v p k:=by
 obtain⟨b1,b2,_⟩:=pI ok h (k:=k) (by omega) h3;have hl:(p.take k).length=k:=by rw [List.length_take];omega
 obtain⟨_,_,b3⟩:=pI ok b1 (k:=j) h1 (by omega);have e1:fF v (p.take k) j=fF v p j:=by rw [fF,fF,List.take_take,Nat.min_eq_left h2]
 have e2:fF v (p.take k) (p.take k).length=fF v p k:=by rw [fF,fF,List.take_length]
 rw [e1,e2] at b3;exact b3
theorem Az (ok:aY v)(h:(bN v p).2.2=0) {j k:Nat} (h2:j≤k)(h3:k<p.length):dR v p s t j≤dR v p s t k:=by
 have:=low_mono ok h (j:=j+1) (k:=k+1) (by omega) (by omega) (by omega);have:=Nat.div_le_div_right (c:=fF v p p.length) (Nat.mul_le_mul_left (t - s).toNat this);unfold dR;omega
theorem OJ (ok:aY v)(h:(bN v p).2.2=0)(hp:p.length≤16):dR v p s t 0=s:=by
 have:=(Cn ok h hp).2.2.2.1;unfold dR;rw [this];simp
theorem Rx (ok:aY v)(h:(bN v p).2.2=0)(hp:p.length≤16)(h2:2≤p.length)(hst:s≤t) {k:Nat} (hk:k+1=p.length):dR v p s t k=t:=by
 have:=(Cn ok h hp).2.2.1 h2;unfold dR;rw [hk,Nat.mul_div_cancel _ (by omega)];omega
end
section
variable {v : bv} {l : List aC}
def VU (x:bq):Bool:=decide (x.pass≠[])
theorem GQ (a p:aC): ∀x∈ni v a p,x.pass=[]:=by
 intro x hx;unfold ni at hx;split at hx
 ·cases hx
 ·rw [lC,List.mem_map] at hx;obtain⟨_,_,rfl⟩:=hx;rfl
theorem Qb (ok:aY v)(a p:aC):(ni v a p).Pairwise (fun x y=>x.time≤y.time)∧ ∀x∈ni v a p,a.time≤x.time∧x.time≤p.time:=by
 unfold ni;split
 ·simp
 ·rename_i h;have h0:(fP v a.point p.point a.time p.time).2=0:=by simpa using h
  obtain⟨b1,b2,_,_,b5,_,_⟩:=yH ok h0;generalize (fP v a.point p.point a.time p.time).1=m at*;have hl:(a.point::(m++[p.point])).length=m.length+2:=by simp
  refine⟨?_,fun x hx=> ?_⟩
  ·rw [lC];refine List.pairwise_map.2 (List.Pairwise.imp_of_mem ?_ (List.pairwise_lt_range (n:=m.length)));intro i j hi hj hij;have hj':=List.mem_range.1 hj;exact Az ok b1 (by omega) (by omega)
  ·rw [lC,List.mem_map] at hx;obtain⟨i,hi,rfl⟩:=hx;have hi':=List.mem_range.1 hi;have e1:=OJ (s:=a.time) (t:=p.time) ok b1 b2;have e2:=Rx (s:=a.time) (t:=p.time) ok b1 b2 (by omega) (by omega) (k:=m.length+1) (by omega);have m1:=Az (s:=a.time) (t:=p.time) ok b1 (j:=0) (k:=i+1) (by omega) (by omega);have m2:=Az (s:=a.time) (t:=p.time) ok b1 (j:=i+1) (k:=m.length+1) (by omega) (by omega);rw [e1] at m1;rw [e2] at m2;exact⟨m1,m2⟩
theorem Ii (h:gP v none l=0): ∀i:Nat,i≤l.length→gP v (yg l i) (l.drop i)=0
 | 0,_=>by simpa [yg] using h
 | i+1,hi=>by
  have ih:=Ii h i (by omega);obtain⟨p,hp,_⟩:=aN (l:=l) (i:=i) (by omega);rw [nQ hp] at ih;split at ih
  ·cases ih
  split at ih
  ·cases ih
  split at ih
  ·cases ih
  exact ih
theorem Ug (h:(fV v l).2≠0):(fV v l).1=[]:=by
 unfold fV at h ⊢;split
 ·rfl
 ·rename_i h1;rw [if_neg h1] at h;exact absurd rfl h
end
end Go.Toll
end
end
section
namespace Go.Toll
open Go Go.Abs
structure dB where
 id:Bytes
 veh:Bytes
 sys:Bytes
 cls:Int
 stops:List bq
def aH (x:dB):List AV:=[.str x.id,.str x.veh,.str x.sys,.int .i64 x.cls,.ro (x.stops.map aa)]
@[simp] theorem VL (x:dB):(aH x).length=5:=rfl
def bg (l:List bq):List Bytes:=(l.filter VU).map (·.pass)
theorem sD {l:List bq} {i:Nat} {s:bq} (h:l[i]? =some s):bg (l.take (i+1))=if s.pass=[] then bg (l.take i) else bg (l.take i)++[s.pass]:=by
 rw [zM,h];by_cases c:s.pass=[] <;> simp [bg,VU,c]
theorem rC (l:List bq):(bg l).length≤l.length:=by rw [bg,List.length_map];exact List.length_filter_le _ _
def Pn (x:dB):Bytes:=(bg x.stops).headD x.id
def E8 (x:dB):Iv:=match x.stops with
 | []=>⟨0,0⟩
 | a::l=>⟨a.time,IntKind.i64.wrap (((a::l).getLastD a).time+1)⟩
def jU (t:bn)(s:Bytes):Bytes:=((eu t s).getD sys0).name
def mh (t:bn)(s:Bytes):Int:=((eu t s).getD sys0).most
def nC (t:bn)(before:Option bq):List bq→Int
 | []=>0
 | s::l=>if kindOf t s.point=0 then 16 else if s.time<0∨68719476736≤s.time then 12 else if before.any (fun a=>decide (s.time<a.time)) then 15 else nC t (some s) l
def Jd (l:List bq)(i:Nat):Option bq:=match i with
 | 0=>none
 | j+1=>l[j]?
theorem OD {t:bn} {l:List bq} {i:Nat} {s:bq} (h:l[i]? =some s):nC t (Jd l i) (l.drop i)=if kindOf t s.point=0 then 16 else if s.time<0∨68719476736≤s.time then 12 else if (Jd l i).any (fun a=>decide (s.time<a.time)) then 15 else nC t (Jd l (i+1)) (l.drop (i+1)):=by
 rw [bF h,nC,show Jd l (i+1)=some s from h]
def mR (l:List bq):List bq:=(l.take (l.length - 1)).drop 1
def vz (t:bn)(l:List bq)(a b:bq):Bool:=
 if l.length=1 then decide (kindOf t a.point=1)
 else decide (kindOf t a.point=2) && decide (kindOf t b.point=3) && decide (jU t a.point=jU t b.point) && (mR l).all fun s=>decide (kindOf t s.point=4)
def vE (t:bn)(x:dB)(a b:bq):Int:=
 if x.sys≠jU t a.point then 6
 else if vz t x.stops a b=false then 1
 else if 1<x.stops.length∧mh t a.point<b.time - a.time then 12
 else if x.id≠Pn x then 6 else 0
def mo (t:bn)(x:dB):Int:=
 if x.id=[]∨x.veh=[] then 6
 else if x.cls<1∨9<x.cls then 20
 else match x.stops with
  | []=>1
  | a::l=>if nC t none (a::l)≠0 then nC t none (a::l) else vE t x a ((a::l).getLastD a)
theorem vC {t:bn} (hz:bZ t=0) {s:Bytes} {p:Pt} (h:bH t.net s=some p):jU t s=p.sys:=by
 have hv:aI t=t:=by rw [aI,if_pos hz]
 have hm:p∈t.net.pts:=by
  have hn:=fC t;rw [hv] at hn;rw [bH,if_pos hn] at h;exact List.mem_of_find?_eq_some h
 have hf:pq t.sys p=true:=by
  unfold bZ at hz;split at hz
  ·rename_i h1;exact absurd hz h1
  split at hz
  ·cases hz
  split at hz
  ·rename_i h1;exact absurd hz h1
  split at hz
  ·rename_i h1;exact List.all_eq_true.1 h1 p hm
  ·cases hz
 have hfs: ∀y,dM t.sys p.sys=some y→y.name=p.sys:=fun y hy=>by
  have:=List.find?_some hy;simpa using this
 unfold jU eu;rw [hv,h];simp only;split
 ·rename_i h0;rw [h0];rfl
 ·rename_i h0
  cases hy:dM t.sys p.sys with
  | some y=>exact hfs y hy
  | none=>
   unfold pq at hf;rw [hy] at hf;split at hf
   ·cases hf
   split at hf
   ·cases hf
   ·simp at hf;exact absurd hf h0
end Go.Toll
end
section
namespace Go.Proofs.YtkpioblbeiaefaaGreat
open Go Go.Abs Go.Toll
variable {gl : aR} {h : ak}
theorem IM (l:List Bytes): ∀e∈l.map aO,∀y∈e,y.Data:=fun e he y hy=>by
 obtain⟨m,_,rfl⟩:=List.mem_map.1 he;simp [aO] at hy;rw [hy];simp
set_option maxHeartbeats 1000000 in
theorem wX (x:dB)(hn:x.stops.length≤1000000):af Tryz.prog gl 20 [.agg (aH x)] h fun v h'=>v= .ro ((bg x.stops).map aO)∧h'=h:=by
 refine af.fresh' (af.body Tryz.f20 _ mixed Tryz.func20 rfl rfl (by simp [Tryz.ntmps20]) ?_);simp [aH];refine aW.up mixed x.stops.length (fun i fr H=>fr 7= .ro (x.stops.map aa)∧fr 8= .int .i64 x.stops.length∧fr 9= .int .i64 i∧(∃g,H=h++g)∧ ∃z,fr 3=z∧Ls 1 h.length H z ((bg (x.stops.take i)).map aO)) 0 (by omega)
  ⟨by simp,by simp,by simp,⟨_,rfl⟩,.nil,by simp,by simpa [bg] using Ls.nil⟩ ?_
 rintro i fr H hi ⟨e7,e8,e9,hB,z,e3,hz⟩;have hzf:=hz.rs.fix;have hlH:=aV hB;rcases zN i x.stops.length with hlt | hge
 ·obtain⟨s,hs,hs'⟩:=aN hlt;have ew:=aB (i:=i) (by omega);have hsuc:=sD hs;have hpl:=rC (x.stops.take i);have htl:=List.length_take_le i x.stops;by_cases c:s.pass=[]
  ·rw [if_pos c] at hsuc;simp [aa,e3,e7,e8,e9,hlt,hs,hs',c,ew,hzf];exact⟨i+1,by omega,by omega,by omega,aF hB _,by rw [hsuc];exact hz.more _⟩
  ·rw [if_neg c] at hsuc;simp [-ae,-ai,-ah,-AV.solid,aa,e3,e7,e8,e9,hlt,hs,hs',c,hzf];refine aG (lo:=h.length) (n:=1) (es:=(bg (x.stops.take i)).map aO) (ys:=[aO s.pass]) (by simpa [aO] using hz.more _) (by simp;omega) (by simp [bu,aO]) (by simp;omega) ?_;intro s1 H1 hs1 hg1 hn1;have hs1f:=hs1.rs.fix;have hB1:=hg1.base h (by omega) (aF hB _);simp [-ae,-ai,-ah,-AV.solid,e7,e8,e9,hs1f,ew];exact⟨i+1,by omega,by omega,by omega,hB1,by rw [hsuc];simpa using hs1⟩
 ·obtain rfl:i=x.stops.length:=by omega
  rw [List.take_length] at hz;simp [e3,e7,e8,e9,hzf];exact⟨hB,hz.frz (Nat.le_refl _) (IM _)⟩
theorem Kj (x:dB)(hn:x.stops.length≤1000000):af Tryz.prog gl 22 [.agg (aH x)] h fun v h'=>v= .str (Pn x)∧h'=h:=by
 refine af.data (by simp) (af.body Tryz.f22 _ mixed Tryz.func22 rfl rfl (by simp [Tryz.ntmps22]) ?_);simp [aH];refine ay.pure _ (fun _=>wX x hn) ?_;unfold Pn
 cases hp:bg x.stops with
 | nil=>simp
 | cons a r=>
  have h1:(0:Int)<((r.length+1:Nat):Int):=by omega
  have h2:(0:Int)<(r.length:Int)+1:=by omega
  simp [aO,h1,h2]
theorem Rz (x:dB)(hn:x.stops.length≤1000000):af Tryz.prog gl 24 [.agg (aH x)] h fun v h'=>v= .agg (Dm (E8 x))∧h'=h:=by
 refine af.data (by simp) (af.body Tryz.f24 _ mixed Tryz.func24 rfl rfl (by simp [Tryz.ntmps24]) ?_)
 cases hp:x.stops with
 | nil=>
  have hsp:E8 x=⟨0,0⟩:=by unfold E8;rw [hp]
  rw [hsp];simp [aH,hp,Dm]
 | cons a r=>
  have hlen:x.stops.length=r.length+1:=by rw [hp];rfl
  have h0: ¬((x.stops.length:Int)=0):=by omega
  have hne: ¬x.stops=[]:=by rw [hp];simp
  have hpos:0<x.stops.length:=by omega
  have w1:IntKind.i64.wrap ((x.stops.length:Int) - 1)=((x.stops.length - 1:Nat):Int):=by rw [aD (by omega) (by omega)];omega
  obtain⟨b,hb,hb'⟩:=aN (l:=x.stops) (i:=x.stops.length - 1) (by omega);obtain⟨a',ha,ha'⟩:=aN hpos;have e1:a'=a:=by rw [←ha'];simp [hp]
  subst e1;have hlt:x.stops.length - 1<x.stops.length:=by omega
  have hl:(a'::r).getLastD a'=b:=by
   rw [←hp,List.getLastD_eq_getLast?,List.getLast?_eq_getElem?,hb];rfl
  have hsp:E8 x=⟨a'.time,IntKind.i64.wrap (b.time+1)⟩:=by
   unfold E8;rw [hp];show Iv.mk a'.time (IntKind.i64.wrap (((a'::r).getLastD a').time+1))=_;rw [hl]
  rw [hsp];simp [aH,aa,Dm,h0,hne,hpos,w1,ha,ha',hb,hb',hlt];decide
def Gf:Nat→Option (List (Nat×Nat)):=fun id=>if id=4 then some [(0,10),(2,10),(4,10),(5,10)] else if id=5 then some [(0,11),(3,11),(5,11),(6,11)] else none
set_option maxHeartbeats 4000000 in
theorem OO (t:bn)(S:List bq)(a b:bq)(ha:S[0]? =some a)(hb:S[S.length - 1]? =some b)(hn:S.length≤1000000)(hp:t.net.pts.length≤1000)(hl:t.net.lks.length≤1000)(hs:t.sys.length≤1000):
  af Tryz.prog gl 48 [.agg (av t),.ro (S.map aa)] h fun v h'=>v= .bool (vz t S a b)∧h'=h:=by
 refine af.data (.bool _) (af.bodyL Gf Tryz.f48 _ mixed Tryz.func48 rfl rfl (by simp [Tryz.ntmps48]) ?_);have hpos:=aK ha;have hlt:S.length - 1<S.length:=by omega
 have ha':=(zA.1 ha).2;have hb':=(zA.1 hb).2;have w1:IntKind.i64.wrap ((S.length:Int) - 1)=((S.length - 1:Nat):Int):=by rw [aD (by omega) (by omega)];omega
 have kd:=fun (H:ak) (s:Bytes)=>jV (gl:=gl) (h:=H) t s hp hl hs;have sy:=fun (H:ak) (s:Bytes)=>iR (gl:=gl) (h:=H) t s hp hl hs;by_cases hr:S.length=1
 ·have hz:((S.length - 1:Nat):Int)=0:=by omega
  have hz':S.length - 1=0:=by omega
  simp [Gf,aa,w1,hz,hz',hpos,ha,ha'];refine⟨by decide,?_⟩;refine ay.pure _ (fun _=>kd _ a.point) ?_;simp [vz,hr];rfl
 ·have hz: ¬((S.length - 1:Nat):Int)=0:=by omega
  have hz': ¬S.length - 1=0:=by omega
  have hsh:vz t S a b=(decide (kindOf t a.point=2) && decide (kindOf t b.point=3) && decide (jU t a.point=jU t b.point) && (mR S).all fun s=>decide (kindOf t s.point=4)):=by
   unfold vz;rw [if_neg hr]
  have e1:jU t a.point=((eu t a.point).getD sys0).name:=rfl;have e2:jU t b.point=((eu t b.point).getD sys0).name:=rfl;have sya:=fun (H:ak)=>sy H a.point;have syb:=fun (H:ak)=>sy H b.point;generalize (eu t a.point).getD sys0=ya at*;generalize (eu t a.point).isSome=za at*;generalize (eu t b.point).getD sys0=yb at*;generalize (eu t b.point).isSome=zb at*;clear sy;simp [Gf,aa,w1,hz,hz',hpos,hlt,ha,ha',hb,hb'];refine⟨by decide,?_⟩;refine ay.pure _ (fun _=>sya _) ?_;simp [Gf,aa,w1,hz,hz',hpos,hlt,ha,ha',hb,hb'];refine⟨ay.pure _ (fun _=>sya _) (by simp),?_⟩;refine⟨by decide,?_⟩;refine ay.pure _ (fun _=>syb _) ?_;simp [Gf,aa,w1,hz,hz',hpos,hlt,ha,ha',hb,hb'];refine⟨ay.pure _ (fun _=>syb _) (by simp),?_⟩;refine⟨by decide,?_⟩;refine ay.pure _ (fun _=>kd _ a.point) ?_;by_cases k1:kindOf t a.point=2
  case neg=>
   simp [Gf,aa,w1,hz,hz',hpos,hlt,ha,ha',hb,hb',k1];refine ay.pure (.int .i64 0) (fun c=>by simp [k1] at c) ?_;simp [hsh,k1]
  simp [Gf,aa,w1,hz,hz',hpos,hlt,ha,ha',hb,hb',k1];refine ay.pure _ (fun _=>kd _ b.point) ?_;by_cases k2:kindOf t b.point=3
  case neg=>
   simp [k2];simp [hsh,k2]
  by_cases k3:ya.name=yb.name
  case neg=>
   simp [k2,k3];simp [hsh,k1,k2,e1,e2,k3]
  simp [k2,k3];have hil:(mR S).length=S.length - 1 - 1:=by simp [mR]
  have hin:((S.map aa).take (S.length - 1)).drop 1=(mR S).map aa:=by simp [mR]
  have hsh2:vz t S a b=(mR S).all fun s=>decide (kindOf t s.point=4):=by rw [hsh,e1,e2];simp [k1,k2,k3]
  refine⟨by omega,?_⟩;refine aW.upL Gf mixed (mR S).length (fun i fr H=>fr 2= .ptr h.length 0 0∧fr 69= .ro ((mR S).map aa)∧fr 70= .int .i64 (mR S).length∧fr 71= .int .i64 i∧vz t S a b=((mR S).drop i).all (fun s=>decide (kindOf t s.point=4))∧H[h.length]? =some (.cells 3 [av t])∧ ∃g,H=h++g) 0 (by omega)
   ⟨by simp,by simp [←hin],by simp [hil],by simp,by simpa using hsh2,by simp,_,rfl⟩ ?_
  rintro i fr H hi ⟨f2,f69,f70,f71,hf,hT,hB⟩;have hT3:=at3 hT;simp only [av] at hT3;generalize mR S=L at*;have hL:L.length≤1000000:=by omega
  rcases zN i L.length with hlt2 | hge
  ·obtain⟨s,hss,hss'⟩:=aN hlt2;have ew:=aB (i:=i) (by omega);rw [bF hss,List.all_cons] at hf;have hH:=aK hT;have hT3':=at3 (aJ hT [.cells 3 [aa s]]);simp only [av,aa] at hT3';simp [Gf,aa,f2,f69,f70,f71,hlt2,hss,hss',hT3,hT3'];refine ay.pure _ (fun _=>kd _ s.point) ?_;by_cases k4:kindOf t s.point=4
   ·simp [k4,f2,f69,f70,f71,ew];refine⟨i+1,by omega,by omega,by omega,by rw [hf];simp [k4],?_,aF hB _⟩;simpa [aa] using aJ hT [.cells 3 [aa s]]
   ·simp [k4,f2,f69,f70,f71,ew];exact⟨by rw [hf];simp [k4],aF hB _⟩
  ·rw [zH hge] at hf;have hge': ¬(i:Int)<L.length:=by omega
   simp [Gf,f2,f69,f70,f71,Nat.not_lt.2 hge,hge',hf];exact hB
theorem xR {t:bn}: ∀ {l:List bq} {b:Option bq},nC t b l=0→ ∀s∈l,kindOf t s.point≠0∧0≤s.time∧s.time<68719476736
 | [],_,_,s,hs=>by cases hs
 | x::l,b,h,s,hs=>by
  rw [nC] at h;split at h
  ·cases h
  split at h
  ·cases h
  split at h
  ·cases h
  rcases List.mem_cons.1 hs with rfl | hs
  ·rename_i h1 h2 _;exact⟨h1,by omega,by omega⟩
  ·exact xR h s hs
theorem r16:List.range 16=[0,1,2,3,4,5,6,7,8,9,10,11,12,13,14,15]:=rfl
def kK:Nat→Option ug:=fun id=>if id=17 then some (.perm [([0,1,2,3,4,5,6,7,8,9,10,11,12,13,14,15],[(1,13),(1,14),(2,13),(2,14),(3,13),(3,14),(5,13),(5,14),(5,15),(7,13),(7,14),(7,15),(8,13),(8,14),(8,15),(10,13),(10,14),(10,15),(11,13),(11,14),(11,15)]),([0,1,2,3,4,5,6,7,8,9,10,11,13,12,14,15],[(1,13),(1,14),(2,13),(2,14),(3,13),(3,14),(5,13),(5,14),(5,15),(7,13),(7,14),(7,15),(8,13),(8,14),(8,15),(10,13),(10,14),(10,15),(11,13),(11,14),(11,15)])]) else none
set_option maxHeartbeats 8000000 in
theorem FB (t:bn)(x:dB)(hn:x.stops.length≤1000000)(hp:t.net.pts.length≤1000)(hl:t.net.lks.length≤1000)(hs:t.sys.length≤1000):
  af Tryz.prog gl 18 [.agg (av t),.agg (aH x)] h fun v h'=>v= .int .i64 (mo t x)∧h'=h:=by
 refine af.data (by simp) (af.bodyN kK Tryz.f18 _ mixed Tryz.func18 rfl rfl (by simp [Tryz.ntmps18]) ?_);have kd:=fun (H:ak) (s:Bytes)=>jV (gl:=gl) (h:=H) t s hp hl hs;by_cases c1:x.id=[]
 ·simp [kK,-bA,aH,mo,c1]
 by_cases c2:x.veh=[]
 ·simp [kK,-bA,aH,mo,c1,c2]
 have hE0:mo t x=if x.cls<1∨9<x.cls then 20 else match x.stops with
  | []=>1
  | a::l=>if nC t none (a::l)≠0 then nC t none (a::l) else vE t x a ((a::l).getLastD a):=by
  unfold mo;rw [if_neg (by intro c;rcases c with c | c;exact c1 c;exact c2 c)];all_goals rfl
 by_cases c3:x.cls<1
 ·rw [hE0,if_pos (.inl c3)];simp [kK,-bA,aH,c1,c2,c3]
 by_cases c4:9<x.cls
 ·rw [hE0,if_pos (.inr c4)];simp [kK,-bA,aH,c1,c2,c3,c4]
 rw [if_neg (by omega)] at hE0;by_cases c5:x.stops=[]
 ·rw [hE0,c5];simp [kK,-bA,aH,c1,c2,c3,c4,c5]
 have hpos:=List.length_pos_iff.2 c5;obtain⟨a,ha,ha'⟩:=aN hpos;obtain⟨b,hb,hb'⟩:=aN (l:=x.stops) (i:=x.stops.length - 1) (by omega);have hE:mo t x=if nC t none x.stops≠0 then nC t none x.stops else vE t x a b:=by
  rw [hE0]
  cases hx:x.stops with
  | nil=>exact absurd hx c5
  | cons a' l=>
   have e1:a'=a:=by rw [←ha'];simp [hx]
   have e2:(a'::l).getLastD a'=b:=by rw [←hx,List.getLastD_eq_getLast?,List.getLast?_eq_getElem?,hb];rfl
   subst e1;show (if _ then _ else vE t x a' ((a'::l).getLastD a'))=_;rw [e2]
 have h0: ¬((x.stops.length:Int)=0):=by omega
 have hlt:x.stops.length - 1<x.stops.length:=by omega
 have w1:IntKind.i64.wrap ((x.stops.length:Int) - 1)=((x.stops.length - 1:Nat):Int):=by rw [aD (by omega) (by omega)];omega
 rw [hE];clear hE0 hE;simp [kK,-bA,aH,c1,c2,c3,c4,c5,h0];refine aW.upN kK mixed x.stops.length (fun i fr H=>fr 2= .ptr h.length 0 0∧fr 3= .ptr (h.length+1) 0 0∧fr 35= .ro (x.stops.map aa)∧fr 36= .int .i64 x.stops.length∧fr 37= .int .i64 i∧nC t none x.stops=nC t (Jd x.stops i) (x.stops.drop i)∧H[h.length]? =some (.cells 3 [av t])∧H[h.length+1]? =some (.cells 5 [aH x])∧ ∃g,H=h++g) 0 (by omega)
  ⟨by simp,by simp,by simp,by simp,by simp,by simp [Jd],by simp,by simp [aH],_,rfl⟩ ?_
 rintro i fr H hi ⟨f2,f3,f35,f36,f37,hf,hT,hX,hB⟩;rw [hf];have hT3:=at3 hT;have hX3:=at3 hX;simp only [av] at hT3;simp only [aH] at hX3;rcases zN i x.stops.length with hlt2 | hge
 ·obtain⟨s,hss,hss'⟩:=aN hlt2;have ew:=aB (i:=i) (by omega);rw [OD hss] at hf ⊢;have hT3':=at3 (aJ hT [.cells 3 [aa s]]);have hX3':=at3 (aJ hX [.cells 3 [aa s]]);simp only [av,aa] at hT3';simp only [aH,aa] at hX3';simp [kK,-bA,aa,f2,f3,f35,f36,f37,hlt2,hss,hss',hT3'];refine ay.pure _ (fun _=>kd _ s.point) ?_;by_cases q1:kindOf t s.point=0
  ·simp [kK,-bA,q1,f2,f3];exact aF hB _
  by_cases q2:s.time<0
  ·simp [kK,-bA,q1,q2,f2,f3];exact aF hB _
  by_cases q3:68719476736≤s.time
  ·simp [kK,-bA,q1,q2,q3,f2,f3];exact aF hB _
  cases i with
  | zero=>
   have hbf:Jd x.stops 0=none:=rfl;simp only [hbf,Option.any_none] at hf ⊢;simp [kK,q1,q2,q3,f2,f3,f35,f36,f37];refine⟨by decide,1,by omega,by omega,by decide,by simp,by simpa [aa] using aJ hT [.cells 3 [aa s]],by simpa [aa,aH] using aJ hX [.cells 3 [aa s]],aF hB _⟩
  | succ j=>
   obtain⟨y,hy,hy'⟩:=aN (l:=x.stops) (i:=j) (by omega);have hj:j<x.stops.length:=by omega
   have hbf:Jd x.stops (j+1)=some y:=hy;simp only [hbf,Option.any_some] at hf ⊢;have w2:IntKind.i64.wrap (((j+1:Nat):Int) - 1)=(j:Int):=by rw [aD (by omega) (by omega)];omega
   have hjp:(0:Int)<((j+1:Nat):Int):=by omega
   by_cases q4:s.time<y.time
   ·simp [-Int.natCast_add,kK,aa,q1,q2,q3,q4,f2,f3,f35,f36,f37,hy,hy',hj,w2,hjp,hX3',ew];exact⟨by decide,aF hB _⟩
   ·simp [-Int.natCast_add,kK,aa,q1,q2,q3,q4,f2,f3,f35,f36,f37,hy,hy',hj,w2,hjp,hX3',ew];refine⟨by decide,j+1+1,by omega,by omega,rfl,rfl,by simpa [aa] using aJ hT [.cells 3 [aa s]],by simpa [aa,aH] using aJ hX [.cells 3 [aa s]],aF hB _⟩
 ·obtain rfl:i=x.stops.length:=by omega
  have hz:nC t none x.stops=0:=by rw [hf,List.drop_length];rfl
  rw [List.drop_length];have hz2:nC t (Jd x.stops x.stops.length) []=0:=rfl;rw [hz2,if_pos (rfl:(0:Int)=0)];simp [kK,-bA,f2,f3,f35,f36,f37];rw [bA];simp only [kK,if_true];refine⟨by decide,?_⟩;generalize hK:iY _ _ Exit.normal=K;have key: ∀fr' h' k7 k8,fr' 2= .ptr h.length 0 0→fr' 3= .ptr (h.length+1) 0 0→fr' 7= .ptr k7 0 0→fr' 8= .ptr k8 0 0→h'[h.length]? =some (.cells 3 [av t])→h'[h.length+1]? =some (.cells 5 [aH x])→
    h'[k7]? =some (.cells 3 [aa a])→h'[k8]? =some (.cells 3 [aa b])→(∃g,h'=h++g)→K fr' h':=by
   intro fr' h' k7 k8 g2 g3 g7 g8 hT hX h7 h8 hB;rw [←hK];have hT3:=at3 hT;have hX3:=at3 hX;have h73:=at3 h7;have h83:=at3 h8;simp only [av] at hT3;simp only [aH] at hX3;simp only [aa] at h73 h83;have e1:jU t a.point=((eu t a.point).getD sys0).name:=rfl;have e2:mh t a.point=((eu t a.point).getD sys0).most:=rfl;have sya:=fun (H:ak)=>iR (gl:=gl) (h:=H) t a.point hp hl hs;have shp:=fun (H:ak)=>OO (gl:=gl) (h:=H) t x.stops a b ha hb hn hp hl hs;have tid:=fun (H:ak)=>Kj (gl:=gl) (h:=H) x hn;simp [kK,-bA,g2,g3,g7,g8,hT3,h73];refine ay.pure _ (fun _=>sya _) ?_;unfold vE;rw [e1,e2];generalize (eu t a.point).getD sys0=ya at*;generalize (eu t a.point).isSome=za at*;have hTq:=at3 (aJ hT [.cells 3 [dH ya]]);have hXq:=at3 (aJ hX [.cells 3 [dH ya]]);have h7q:=at3 (aJ h7 [.cells 3 [dH ya]]);have h8q:=at3 (aJ h8 [.cells 3 [dH ya]]);simp only [av,dH] at hTq;simp only [aH,dH] at hXq;simp only [aa,dH] at h7q h8q;by_cases p1:x.sys=ya.name
   case neg=>
    simp [kK,-bA,g2,g3,g7,g8,hXq,p1];exact aF hB _
   simp [kK,-bA,g2,g3,g7,g8,hXq,hTq,p1];refine ay.pure _ (fun _=>shp _) ?_
   cases p2:vz t x.stops a b with
   | false=>
    simp [kK,-bA,g2,g3,g7,g8];exact aF hB _
   | true=>
    have ra:=xR hz a (zF ha);have rb:=xR hz b (zF hb);have wd:IntKind.i64.wrap (b.time - a.time)=b.time - a.time:=aD (by omega) (by omega);by_cases c6:1<x.stops.length
    ·have c6':(1:Int)<x.stops.length:=by omega
     by_cases c7:ya.most<b.time - a.time
     ·simp [kK,-bA,g2,g3,g7,g8,hXq,hTq,h7q,h8q,wd,c6,c6',c7];exact aF hB _
     ·simp [kK,-bA,g2,g3,g7,g8,hXq,hTq,h7q,h8q,wd,c6,c6',c7];simp [kK,g2,g3,g7,g8,hXq,hTq,h7q,h8q];refine⟨by decide,?_⟩;refine ay.pure _ (fun _=>tid _) ?_;by_cases c8:x.id=Pn x
      ·simp [kK,←c8,g2,g3];exact aF hB _
      ·simp [kK,c8,g2,g3];exact aF hB _
    ·have c6': ¬(1:Int)<x.stops.length:=by omega
     simp [kK,-bA,g2,g3,g7,g8,hXq,hTq,h7q,h8q,wd,c6,c6'];simp [kK,g2,g3,g7,g8,hXq,hTq,h7q,h8q];refine⟨by decide,?_⟩;refine ay.pure _ (fun _=>tid _) ?_;by_cases c8:x.id=Pn x
     ·simp [kK,←c8,g2,g3];exact aF hB _
     ·simp [kK,c8,g2,g3];exact aF hB _
  rw [aA,aA];have hH:=hX3.2.1;refine⟨⟨by decide+kernel,?_⟩,⟨by decide+kernel,?_⟩,trivial⟩
  ·simp [bi,dC,dw,dh,bW,r16,aa,f2,f3,hX3,hpos,ha,ha',hb,hb',hlt,w1];exact key _ _ H.length (H.length+1) (by simp [f2]) (by simp [f3]) (by simp) (by simp) (aJ hT _) (aJ hX _) (by simp [aa]) (by simp [aa]) (aF hB _)
  ·simp [bi,dC,dw,dh,bW,r16,aa,f2,f3,hX3,hpos,ha,ha',hb,hb',hlt,w1];exact key _ _ (H.length+1) H.length (by simp [f2]) (by simp [f3]) (by simp) (by simp) (aJ hT _) (aJ hX _) (by simp [aa]) (by simp [aa]) (aF hB _)
end Go.Proofs.YtkpioblbeiaefaaGreat
end
section
namespace Go.Toll
open Go Go.Abs
def Ml:Sh:=ZA .str RQ
def EX:Sh:= .st (.cons .str (.cons .str (.cons RQ (.cons .str (.cons .str (.cons RQ (.cons RQ (.cons (.sl Ml) .none))))))))
def aC.dat (p:aC):Prop:= ∀e∈p.sources,∀v∈e,v.Data
structure kg where
 dev:Bytes
 seq:Int
deriving DecidableEq
def intOf:AV→Int
 | .int _ n=>n
 | _=>0
def cz (s:kg):List AV:=[.str s.dev,.int .i64 s.seq]
def Nj (e:List AV):kg:=⟨strOf (e.getD 0 .junk),intOf (e.getD 1 .junk)⟩
@[simp] theorem WO (s:kg):Nj (cz s)=s:=rfl
def aC.srcs (p:aC):List kg:=p.sources.map Nj
structure aC.Ok (p:aC):Prop where
 src:p.sources=p.srcs.map cz
 id:fU p.id
 point:fU p.point
 tag:fU p.tag
 plate:fU p.plate
 dev: ∀s∈p.srcs,fU s.dev
 n:p.sources.length≤maxLen
theorem aC.Ok.dat {p:aC} (h:p.Ok):p.dat:=by
 intro e he v hv;rw [h.src] at he;obtain⟨s,_,rfl⟩:=List.mem_map.1 he;simp [cz] at hv;rcases hv with rfl | rfl <;> simp
theorem Td {es:List AV} (h:EX.ok es): ∃p:aC,es=aj p∧p.Ok:=by
 obtain⟨a,_,rfl,h1,b,_,rfl,h2,c,_,rfl,h3,d,_,rfl,h4,e,_,rfl,h5,f,_,rfl,h6,g,_,rfl,h7,i,_,rfl,h8,rfl⟩:=h;obtain⟨a,rfl,ha⟩:=Gj h1;obtain⟨b,rfl,hb⟩:=Gj h2;obtain⟨c,rfl,_⟩:=LG h3;obtain⟨d,rfl,hd⟩:=Gj h4;obtain⟨e,rfl,he⟩:=Gj h5;obtain⟨f,rfl,_⟩:=LG h6;obtain⟨g,rfl,_⟩:=LG h7;obtain⟨l,rfl,hn,hl⟩:=Tc (enc:=cz) (Q:=fun s=>fU s.dev) h8 fun es h=>by
  obtain⟨_,_,rfl,g1,g2⟩:=NT h;obtain⟨x,rfl,hx⟩:=Gj g1;obtain⟨y,rfl,_⟩:=LG g2;exact⟨⟨x,y⟩,rfl,hx⟩
 have e1:(aC.mk a b c d e f g (l.map cz)).srcs=l:=by
  show (l.map cz).map Nj=l;rw [List.map_map];exact List.map_id'' (fun s=>rfl) l
 exact⟨⟨a,b,c,d,e,f,g,l.map cz⟩,rfl,⟨by rw [e1],ha,hb,hd,he,by rw [e1];exact hl,by simpa using hn⟩⟩
def iF (a b:Int):Int:=if a<b then -1 else if b<a then 1 else 0
def jb (a b:Bytes):Int:=if a=b then 0 else if Op.bytesLess a b=true then -1 else 1
def fK (a b:kg):Int:=if a.dev=b.dev then iF a.seq b.seq else jb a.dev b.dev
def dI:List kg→List kg→Int
 | a::r,b::q=>if fK a b≠0 then fK a b else dI r q
 | r,q=>iF r.length q.length
def dE:List Int→Int
 | []=>0
 | a::r=>if a≠0 then a else dE r
def cmpL (a b:aC):List Int:=[iF a.time b.time,jb a.point b.point,jb a.id b.id,jb a.tag b.tag,jb a.plate b.plate,iF a.cls b.cls,iF a.score b.score,dI a.srcs b.srcs]
def uu (a b:aC):Int:=dE (cmpL a b)
theorem GX (a:Bytes):jb a a=0:=by rw [jb,if_pos rfl]
theorem zP {a b:Bytes} (h:jb a b=0):a=b:=by
 unfold jb at h;split at h
 ·assumption
 split at h <;> cases h
theorem R9 (a b c:Nat):iF ((c+a:Nat):Int) ((c+b:Nat):Int)=iF a b:=by
 have h1:((c+a:Nat):Int)<((c+b:Nat):Int)↔(a:Int)<b:=by omega
 have h2:((c+b:Nat):Int)<((c+a:Nat):Int)↔(b:Int)<a:=by omega
 unfold iF;simp only [h1,h2]
end Go.Toll
end
