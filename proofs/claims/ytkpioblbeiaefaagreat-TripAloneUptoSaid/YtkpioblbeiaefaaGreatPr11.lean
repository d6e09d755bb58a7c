/- Part 11 of the lemmas below the statements of this seat: TollSeen, TollMove, TollInfer, TollTrip, TripA, TripB, TollSeenShape, TollPass. -/
import Derived.Test.YtkpioblbeiaefaaGreatPr10
set_option linter.unusedSectionVars false
set_option linter.unusedVariables false
set_option linter.unusedSimpArgs false
set_option linter.unnecessarySimpa false
set_option maxRecDepth 100000
section
namespace Go.Toll
open Go Go.Abs
structure ay where
 id:Bytes
 point:Bytes
 time:Int
 tag:Bytes
 plate:Bytes
 cls:Int
 score:Int
 sources:List (List AV)
def ae (p:ay):List AV:=[.str p.id,.str p.point,.int .i64 p.time,.str p.tag,.str p.plate,.int .i64 p.cls,.int .i64 p.score,.ro p.sources]
@[simp] theorem TG (s:ay):(ae s).length=8:=rfl
@[simp] theorem dz (p:ay):ae p=[.str p.id,.str p.point,.int .i64 p.time,.str p.tag,.str p.plate,.int .i64 p.cls,.int .i64 p.score,.ro p.sources]:=rfl
def eG (s:Bytes):Prop:=s.length≤9223372036854775807
theorem Ow (a b:UInt8)(x y:Bytes):Op.bytesLess (a::x) (b::y)=(decide (a<b) || (a==b && Op.bytesLess x y)):=rfl
theorem Ox {a b:Bytes} {i:Nat} {x y:UInt8} (hx:a[i]? =some x)(hy:b[i]? =some y):Op.bytesLess (a.drop i) (b.drop i)=(decide (x<y) || (x==y && Op.bytesLess (a.drop (i+1)) (b.drop (i+1)))):=by
 rw [bq hx,bq hy,Ow]
theorem Qp {a b:Bytes} {i:Nat} (h:a.length≤i∨b.length≤i)(ha:i≤a.length)(hb:i≤b.length):Op.bytesLess (a.drop i) (b.drop i)=decide (a.length<b.length):=by
 rcases h with h | h
 ·rw [zH h];rcases zN i b.length with h1 | h1
  ·obtain⟨y,hy,_⟩:=aJ h1;rw [bq hy];have:a.length<b.length:=by omega
   simp [Op.bytesLess,this]
  ·rw [zH h1];have: ¬a.length<b.length:=by omega
   simp [Op.bytesLess,this]
 ·rw [zH h];have: ¬a.length<b.length:=by omega
  cases a.drop i <;> simp [Op.bytesLess,this]
theorem YC (x y:UInt8):((x.toNat:Int)=(y.toNat:Int))=(x=y):=propext ⟨fun e=>UInt8.toNat_inj.1 (by omega),fun e=>by rw [e]⟩
end Go.Toll
end
section
section
namespace Go.Toll
open Go Go.Abs
theorem xN (t:aY):cu (aH t).net=(aH t).net:=by rw [cu,if_pos (fE t)]
theorem SV (t:aY):aV (aH t).net:=uk (fE t)
def gH (s t:Int):Bool:=bK s && bK t && decide (s<t)
def vo (v:bn)(dt:Int)(q:List Bytes):Bool:=decide ((bM v q).2.2=0∧(bM v q).1≤dt∧dt≤(bM v q).2.1)
def Rh (v:bn)(a b:Bytes)(dt:Int):List (List Bytes):=(fD v a b).1.filter (vo v dt)
def cZ (v:bn)(a b:Bytes)(s t:Int):List (List Bytes)×Int:=
 if (aF v.pts a && aF v.pts b)=false then ([],16)
 else if gH s t=false then ([],12)
 else if (fD v a b).2≠0 then ([],(fD v a b).2)
 else if Rh v a b (t - s)=[] then ([],21) else (Rh v a b (t - s),0)
def qx (v:bn)(a b:Bytes):Int:=if a=b then 60 else match iL v a b with
 | some (_,d)=>d
 | none=>300
def sD (v:bn)(a b:Bytes)(s t:Int):Bool:=aF v.pts a && aF v.pts b && gH s t && decide (qx v a b≤t - s)
section
variable {v : bn}
theorem Lp (ok:aV v)(a b:Bytes):1≤qx v a b:=by
 unfold qx;split
 ·omega
 ·rename_i hab;rcases Bf ok a b with⟨l,d,e,hb,_⟩ | ⟨e,_⟩
  ·rw [e];obtain⟨s,h1,h2⟩:=hb.walk;have h3:=(tV ok h1).1;have hl:l≠[]:=by rintro rfl;exact hab hb.ends
   have:=List.length_pos_iff.2 hl;show 1≤d;omega
  ·rw [e];show (1:Int)≤300;omega
theorem Dh (ok:aV v) {a b:Bytes} {s t:Int} {q:List Bytes} (h:q∈(cZ v a b s t).1):
  ∃l w,Gf v a b q l w∧w.1≤t - s∧t - s≤w.2∧gH s t=true∧aF v.pts a=true∧aF v.pts b=true:=by
 unfold cZ at h;split at h
 ·cases h
 rename_i h1;split at h
 ·cases h
 rename_i h2;split at h
 ·cases h
 split at h
 ·cases h
 obtain⟨h3,h4⟩:=List.mem_filter.1 h;obtain⟨i,hi,e⟩:=List.mem_iff_getElem.1 h3;obtain⟨l,w,hp⟩:=Nk ok (a:=a) (b:=b) (i:=i) (q:=q) (by rw [zB hi,e]);have h5:=of_decide_eq_true h4;rw [hp.bnd] at h5;rw [Bool.not_eq_false,Bool.and_eq_true] at h1;exact⟨l,w,hp,h5.2.1,h5.2.2,by simpa using h2,h1.1,h1.2⟩
theorem Di (ok:aV v) {a b:Bytes} {s t:Int} {q:List Bytes} (h:q∈(cZ v a b s t).1):sD v a b s t=true∧2≤q.length:=by
 obtain⟨l,w,hp,h1,h2,h3,ha,hb⟩:=Dh ok h;have hlt:s<t:=by
  unfold gH at h3;rw [Bool.and_eq_true] at h3;exact of_decide_eq_true h3.2
 have hl:l≠[]:=by
  rintro rfl;have:=hp.walk;rw [wk] at this;injection this with this;rw [←this] at h2;have:t - s≤0:=h2;omega
 have hab:a≠b:=by
  intro e;have h5:=hp.nd;rw [hp.eq] at h5;have h6:=oN a l;obtain⟨x,r,rfl⟩:=List.exists_cons_of_ne_nil hl;have h7:dN a (x::r)∈x::r:=oN x r;rw [hp.ends,←e] at h7;exact (List.nodup_cons.1 h5).1 h7
 refine⟨?_,by rw [hp.eq];have:=List.length_pos_iff.2 hl;simp;omega⟩;unfold sD;rw [ha,hb,h3];simp only [Bool.and_self,Bool.true_and,decide_eq_true_eq];unfold qx;rw [if_neg hab];rcases Bf ok a b with⟨l',d,e,hbest,_⟩ | ⟨e,hno⟩
 ·rw [e];have:=(NP hbest hp).1;show d≤t - s;omega
 ·exact absurd ⟨l,w,hp.walk,hp.ends⟩ (hno ha hb)
end
end Go.Toll
end
section
namespace Go.Toll
open Go Go.Abs
end Go.Toll
end
end
section
section
namespace Go.Toll
open Go Go.Abs
theorem rQ {v:bn} {p:List Bytes} (h:(bM v p).2.2=0): ∃a l s,p=a::l∧(∀z∈a::l,aF v.pts z=true)∧wk v a l=some s∧bM v p=(s.1,s.2,0):=by
 cases p with
 | nil=>simp [bM] at h
 | cons a l=>
  by_cases hall:(a::l).all (aF v.pts)=true
  ·have hall2:=List.all_eq_true.1 hall;rw [kH hall2] at h
   cases hw:wk v a l with
   | none=>rw [hw] at h;simp at h
   | some s=>exact⟨a,l,s,rfl,hall2,hw,by rw [kH hall2,hw]⟩
  ·rw [bM,if_neg hall] at h;simp at h
def fP (v:bn)(p:List Bytes)(k:Nat):Nat:=(bM v (p.take k)).1.toNat
theorem rR {v:bn} (ok:aV v) {p:List Bytes} (h:(bM v p).2.2=0) {k:Nat} (hk:1≤k)(hkp:k≤p.length):
  (bM v (p.take k)).2.2=0∧(bM v (p.take k)).1=(fP v p k:Int)∧fP v p k≤fP v p p.length:=by
 obtain⟨a,l,s,rfl,hall,hw,hb⟩:=rQ h;obtain⟨j,rfl⟩: ∃j,k=j+1:=⟨k - 1,by omega⟩;have hsp:l=l.take j++l.drop j:=(List.take_append_drop j l).symm;rw [hsp] at hw;obtain⟨t,u,h1,h2,rfl⟩:=lZ.1 hw;have r1:=tV ok h1;have r2:=tV ok h2;have hall2: ∀z∈a::l.take j,aF v.pts z=true:=fun z hz=>hall z (by
  rcases List.mem_cons.1 hz with rfl | hz
  ·simp
  ·exact List.mem_cons_of_mem _ (List.mem_of_mem_take hz))
 have hb2:bM v ((a::l).take (j+1))=(t.1,t.2,0):=by rw [List.take_succ_cons,kH hall2,h1]
 have hl0:=Int.natCast_nonneg (l.take j).length;have hl1:=Int.natCast_nonneg (l.drop j).length;refine⟨by rw [hb2],?_,?_⟩
 ·rw [fP,hb2];show t.1=(t.1.toNat:Int);omega
 ·rw [fP,fP,hb2,List.take_length,hb];show t.1.toNat≤(t.1+u.1).toNat;omega
theorem G5 {v:bn} (ok:aV v) {p:List Bytes} (h:(bM v p).2.2=0)(hp:p.length≤16):(bM v p).1=(fP v p p.length:Int)∧fP v p p.length<68719476736∧(2≤p.length→1≤fP v p p.length)∧fP v p 1=0∧1≤p.length:=by
 obtain⟨a,l,s,rfl,hall,hw,hb⟩:=rQ h;obtain⟨r1,r2,r3⟩:=tV ok hw;have hl0:=Int.natCast_nonneg l.length;have hll:(l.length:Int)≤15:=by simp at hp;omega
 have h1:fP v (a::l) 1=0:=by
  have:bM v ((a::l).take 1)=(0,0,0):=by
   rw [List.take_succ_cons,List.take_zero,kH (fun z hz=>hall z (by simp at hz;simp [hz])),RU]
  rw [fP,this];rfl
 have e:fP v (a::l) (a::l).length=s.1.toNat:=by rw [fP,List.take_length,hb]
 rw [e,hb];refine⟨by show s.1=(s.1.toNat:Int);omega,by omega,fun h2=> ?_,h1,by simp⟩;have:(1:Int)≤l.length:=by simp at h2;omega
 omega
def dV (v:bn)(p:List Bytes)(s t:Int)(k:Nat):Int:=s+(((t - s).toNat* fP v p (k+1) / fP v p p.length:Nat):Int)
def qN (v:bn)(p:List Bytes)(s t:Int):List Int:=(List.range p.length).map (dV v p s t)
def DJ (v:bn)(p:List Bytes)(s t:Int):List Int×Int:=
 if 16<p.length then ([],3)
 else if (bK s && bK t && decide (s≤t))=false then ([],12)
 else if (bM v p).2.2≠0 then ([],(bM v p).2.2) else (qN v p s t,0)
def oM (n:Int):List AV:=[.int .i64 n]
@[simp] theorem VW (n:Int):(oM n).length=1:=rfl
def qM (v:bn)(p:List Bytes)(s t:Int)(k:Nat):List Int:=(List.range k).map (dV v p s t)
theorem zV (v:bn)(p:List Bytes)(s t:Int)(k:Nat):qM v p s t (k+1)=qM v p s t k++[dV v p s t k]:=by rw [qM,List.range_succ,List.map_append];rfl
theorem Mv (v:bn)(p:List Bytes)(s t:Int)(k:Nat):(qM v p s t k).length=k:=by simp [qM]
theorem Mt (v:bn)(p:List Bytes)(s t:Int):qM v p s t p.length=qN v p s t:=rfl
def vH (q:List Bytes):List Bytes:=(q.take (q.length - 1)).drop 1
def fu (v:bn)(a b:Bytes)(s t:Int):List Bytes×Int:=
 if (cZ v a b s t).2≠0 then ([],(cZ v a b s t).2)
 else if 1<(cZ v a b s t).1.length then ([],11) else (vH ((cZ v a b s t).1.headD []),0)
theorem Lh {a:Bytes} {l:List Bytes} {b:Bytes} (hl:l≠[])(he:dN a l=b):a::l=a::(vH (a::l)++[b]):=by
 rcases List.eq_nil_or_concat l with rfl | ⟨m,x,rfl⟩
 ·exact absurd rfl hl
 ·have hx:x=b:=by rw [←he];simp only [List.concat_eq_append];exact (fC a m x).symm
  subst hx;simp [vH]
theorem LX {v:bn} (a b:Bytes)(s t:Int):(cZ v a b s t).2=0→(cZ v a b s t).1≠[]:=by
 unfold cZ;split
 ·simp
 split
 ·simp
 split
 ·rename_i h;exact fun e=>absurd e h
 split
 ·simp
 ·rename_i h;exact fun _=>h
theorem AB {v:bn} (ok:aV v) {a b:Bytes} {s t:Int} (h:(fu v a b s t).2=0):
  (bM v (a::((fu v a b s t).1++[b]))).2.2=0∧(a::((fu v a b s t).1++[b])).length≤16∧bK s=true∧bK t=true∧s<t∧
   DJ v (a::((fu v a b s t).1++[b])) s t=(qN v (a::((fu v a b s t).1++[b])) s t,0)∧ ∃q,(cZ v a b s t)=([q],0)∧q=a::((fu v a b s t).1++[b]):=by
 by_cases h1:(cZ v a b s t).2=0
 ·by_cases h2:1<(cZ v a b s t).1.length
  ·rw [fu,if_neg (by simp [h1]),if_pos h2] at h;cases h
  ·have hne:=LX a b s t h1;obtain⟨q,r,hqr⟩:=List.exists_cons_of_ne_nil hne;have hr:r=[]:=by
    rw [hqr] at h2
    cases r with
    | nil=>rfl
    | cons x r=>simp at h2
   subst hr;have hq:q∈(cZ v a b s t).1:=by rw [hqr];simp
   obtain⟨l,w,hp,_,_,hlat,_,_⟩:=Dh ok hq;obtain⟨_,hq2⟩:=Di ok hq;have hl:l≠[]:=by rintro rfl;rw [hp.eq] at hq2;simp at hq2
   have hm:(fu v a b s t).1=vH q:=by rw [fu,if_neg (by simp [h1]),if_neg h2,hqr];rfl
   have hpath:a::((fu v a b s t).1++[b])=q:=by rw [hm,hp.eq];exact (Lh hl hp.ends).symm
   rw [hpath];have hb:(bM v q).2.2=0:=by rw [hp.bnd]
   have hlat':(bK s=true∧bK t=true)∧s<t:=by
    unfold gH at hlat;simpa [Bool.and_eq_true] using hlat
   have hlen:=hp.len;refine⟨hb,hlen,hlat'.1.1,hlat'.1.2,hlat'.2,?_,q,?_,rfl⟩
   ·rw [DJ,if_neg (by omega),if_neg (by rw [hlat'.1.1,hlat'.1.2,decide_eq_true (by omega:s≤t)];simp),if_neg (by simp [hb])]
   ·have:cZ v a b s t=((cZ v a b s t).1,(cZ v a b s t).2):=rfl;rw [this,hqr,h1]
 ·rw [fu,if_pos h1] at h;exact absurd h h1
structure aX where
 point:Bytes
 time:Int
 pass:Bytes
deriving DecidableEq
def ak (x:aX):List AV:=[.str x.point,.int .i64 x.time,.str x.pass]
@[simp] theorem TJ (x:aX):(ak x).length=3:=rfl
def nR (v:bn)(m:List Bytes)(a b:ay)(k:Nat):List aX:=(List.range k).map fun i=>⟨m.getD i [],dV v (a.point::(m++[b.point])) a.time b.time (i+1),[]⟩
def l8 (v:bn)(a b:ay):List aX:=
 if (fu v a.point b.point a.time b.time).2≠0 then [] else nR v (fu v a.point b.point a.time b.time).1 a b (fu v a.point b.point a.time b.time).1.length
theorem KT (v:bn)(m:List Bytes)(a b:ay)(k:Nat):nR v m a b (k+1)=nR v m a b k++[⟨m.getD k [],dV v (a.point::(m++[b.point])) a.time b.time (k+1),[]⟩]:=by rw [nR,List.range_succ,List.map_append];rfl
theorem EJ (v:bn)(m:List Bytes)(a b:ay)(k:Nat):(nR v m a b k).length=k:=by simp [nR]
theorem QC {v:bn} (ok:aV v)(a b:Bytes)(s t:Int):(fu v a b s t).1.length≤16:=by
 by_cases h:(fu v a b s t).2=0
 ·have:=(AB ok h).2.1;simp at this;omega
 ·have:(fu v a b s t).1=[]:=by
   unfold fu at h ⊢;split
   ·rfl
   ·split
    ·rfl
    ·rename_i h1 h2;rw [if_neg h1,if_neg h2] at h;exact absurd rfl h
  rw [this];simp
theorem EK {v:bn} (ok:aV v)(a b:ay):(l8 v a b).length≤16:=by
 unfold l8;split
 ·simp
 ·rw [EJ];exact QC ok _ _ _ _
def ll (p:ay):aX:=⟨p.point,p.time,p.id⟩
def dH (v:bn)(l:List ay):Nat→List aX
 | 0=>[]
 | i+1=>match l[i]? with
  | some p=>dH v l i++((match i with | 0=>[] | j+1=>(match l[j]? with | some a=>l8 v a p | none=>[]))++[ll p])
  | none=>dH v l i
theorem zU {v:bn} {l:List ay} {p:ay} (h:l[0]? =some p):dH v l 1=[ll p]:=by simp [dH,h]
theorem zT {v:bn} {l:List ay} {j:Nat} {a p:ay} (ha:l[j]? =some a)(hp:l[j+1]? =some p):dH v l (j+1+1)=dH v l (j+1)++(l8 v a p++[ll p]):=by
 rw [dH,hp];simp only [ha]
theorem wy {v:bn} (ok:aV v) {l:List ay}: ∀i:Nat,(dH v l i).length≤17*i
 | 0=>by simp [dH]
 | i+1=>by
  have ih:=wy ok (l:=l) i;rw [dH];split
  ·rename_i p _
   cases i with
   | zero=>simp [dH]
   | succ j=>
    simp only;split
    ·rename_i a _;have:=EK ok a p;simp;omega
    ·simp;omega
  ·omega
instance (before:Option ay)(p:ay):Decidable (∃a,before=some a∧p.time≤a.time):=match before with
 | none=>isFalse (by rintro⟨a,e,_⟩;cases e)
 | some a=>if h:p.time≤a.time then isTrue ⟨a,rfl,h⟩ else isFalse (by rintro⟨b,e,h2⟩;cases e;exact h h2)
def gZ (v:bn)(before:Option ay):List ay→Int
 | []=>0
 | p::l=>if aF v.pts p.point=false then 16 else if bK p.time=false then 12 else if (∃a,before=some a∧p.time≤a.time) then 15 else gZ v (some p) l
def ed (v:bn)(l:List ay):Int:=if 1024<l.length then 3 else gZ v none l
def iE (v:bn)(l:List ay):List aX×Int:=if ed v l≠0 then ([],ed v l) else (dH v l l.length,0)
def Ec (l:List ay)(i:Nat):Option ay:=match i with
 | 0=>none
 | j+1=>l[j]?
theorem mO {v:bn} {l:List ay} {i:Nat} {p:ay} (h:l[i]? =some p):gZ v (Ec l i) (l.drop i)=if aF v.pts p.point=false then 16 else if bK p.time=false then 12 else if (∃a,Ec l i=some a∧p.time≤a.time) then 15 else gZ v (Ec l (i+1)) (l.drop (i+1)):=by
 rw [bq h,gZ,show Ec l (i+1)=some p from h]
end Go.Toll
end
section
namespace Go.Toll
open Go Go.Abs
end Go.Toll
end
section
namespace Go.Toll
open Go Go.Abs
section
variable {v : bn} {p : List Bytes} {s t : Int}
theorem low_mono (ok:aV v)(h:(bM v p).2.2=0) {j k:Nat} (h1:1≤j)(h2:j≤k)(h3:k≤p.length):fP v p j≤fP v p k:=by
 obtain⟨b1,b2,_⟩:=rR ok h (k:=k) (by omega) h3;have hl:(p.take k).length=k:=by rw [List.length_take];omega
 obtain⟨_,_,b3⟩:=rR ok b1 (k:=j) h1 (by omega);have e1:fP v (p.take k) j=fP v p j:=by rw [fP,fP,List.take_take,Nat.min_eq_left h2]
 have e2:fP v (p.take k) (p.take k).length=fP v p k:=by rw [fP,fP,List.take_length]
 rw [e1,e2] at b3;exact b3
theorem yR (ok:aV v)(h:(bM v p).2.2=0) {j k:Nat} (h2:j≤k)(h3:k<p.length):dV v p s t j≤dV v p s t k:=by
 have:=low_mono ok h (j:=j+1) (k:=k+1) (by omega) (by omega) (by omega);have:=Nat.div_le_div_right (c:=fP v p p.length) (Nat.mul_le_mul_left (t - s).toNat this);unfold dV;omega
theorem Ms (ok:aV v)(h:(bM v p).2.2=0)(hp:p.length≤16):dV v p s t 0=s:=by
 have:=(G5 ok h hp).2.2.2.1;unfold dV;rw [this];simp
theorem Pv (ok:aV v)(h:(bM v p).2.2=0)(hp:p.length≤16)(h2:2≤p.length)(hst:s≤t) {k:Nat} (hk:k+1=p.length):dV v p s t k=t:=by
 have:=(G5 ok h hp).2.2.1 h2;unfold dV;rw [hk,Nat.mul_div_cancel _ (by omega)];omega
end
section
variable {v : bn} {l : List ay}
def Vd (x:aX):Bool:=decide (x.pass≠[])
theorem EL (a p:ay): ∀x∈l8 v a p,x.pass=[]:=by
 intro x hx;unfold l8 at hx;split at hx
 ·cases hx
 ·rw [nR,List.mem_map] at hx;obtain⟨_,_,rfl⟩:=hx;rfl
theorem EM (ok:aV v)(a p:ay):(l8 v a p).Pairwise (fun x y=>x.time≤y.time)∧ ∀x∈l8 v a p,a.time≤x.time∧x.time≤p.time:=by
 unfold l8;split
 ·simp
 ·rename_i h;have h0:(fu v a.point p.point a.time p.time).2=0:=by simpa using h
  obtain⟨b1,b2,_,_,b5,_,_⟩:=AB ok h0;generalize (fu v a.point p.point a.time p.time).1=m at*;have hl:(a.point::(m++[p.point])).length=m.length+2:=by simp
  refine⟨?_,fun x hx=> ?_⟩
  ·rw [nR];refine List.pairwise_map.2 (List.Pairwise.imp_of_mem ?_ (List.pairwise_lt_range (n:=m.length)));intro i j hi hj hij;have hj':=List.mem_range.1 hj;exact yR ok b1 (by omega) (by omega)
  ·rw [nR,List.mem_map] at hx;obtain⟨i,hi,rfl⟩:=hx;have hi':=List.mem_range.1 hi;have e1:=Ms (s:=a.time) (t:=p.time) ok b1 b2;have e2:=Pv (s:=a.time) (t:=p.time) ok b1 b2 (by omega) (by omega) (k:=m.length+1) (by omega);have m1:=yR (s:=a.time) (t:=p.time) ok b1 (j:=0) (k:=i+1) (by omega) (by omega);have m2:=yR (s:=a.time) (t:=p.time) ok b1 (j:=i+1) (k:=m.length+1) (by omega) (by omega);rw [e1] at m1;rw [e2] at m2;exact⟨m1,m2⟩
theorem yE (h:gZ v none l=0): ∀i:Nat,i≤l.length→gZ v (Ec l i) (l.drop i)=0
 | 0,_=>by simpa [Ec] using h
 | i+1,hi=>by
  have ih:=yE h i (by omega);obtain⟨p,hp,_⟩:=aJ (l:=l) (i:=i) (by omega);rw [mO hp] at ih;split at ih
  ·cases ih
  split at ih
  ·cases ih
  split at ih
  ·cases ih
  exact ih
theorem QP (h:ed v l=0) {j:Nat} {a p:ay} (ha:l[j]? =some a)(hp:l[j+1]? =some p):a.time<p.time:=by
 have h0:gZ v none l=0:=by
  unfold ed at h;split at h
  ·cases h
  ·exact h
 have:=yE h0 (j+1) (by have:=aK hp;omega);rw [mO hp] at this;split at this
 ·cases this
 split at this
 ·cases this
 split at this
 ·cases this
 rename_i hn;rcases Int.lt_or_le a.time p.time with q | q
 ·exact q
 ·exact absurd ⟨a,ha,q⟩ hn
theorem Dx (ok:aV v)(h:ed v l=0): ∀(i:Nat) (p:ay),l[i]? =some p→(dH v l (i+1)).Pairwise (fun x y=>x.time≤y.time)∧ ∀x∈dH v l (i+1),x.time≤p.time
 | 0,p,hp=>by
  rw [zU hp];simp [ll]
 | i+1,p,hp=>by
  obtain⟨a,ha,_⟩:=aJ (l:=l) (i:=i) (by have:=aK hp;omega);obtain⟨h1,h2⟩:=Dx ok h i a ha;obtain⟨b1,b2⟩:=EM ok a p;have hlt:=QP h ha hp;rw [zT ha hp];have hr: ∀x∈l8 v a p++[ll p],a.time≤x.time∧x.time≤p.time:=by
   intro x hx;rcases List.mem_append.1 hx with hx | hx
   ·exact b2 x hx
   ·obtain rfl:=List.mem_singleton.1 hx;exact⟨Int.le_of_lt hlt,Int.le_refl _⟩
  refine⟨List.pairwise_append.2 ⟨h1,List.pairwise_append.2 ⟨b1,by simp,fun x hx y hy=> ?_⟩,fun x hx y hy=> ?_⟩,fun x hx=> ?_⟩
  ·obtain rfl:=List.mem_singleton.1 hy;exact (b2 x hx).2
  ·exact Int.le_trans (h2 x hx) (hr y hy).1
  ·rcases List.mem_append.1 hx with hx | hx
   ·have:=h2 x hx;omega
   ·exact (hr x hx).2
theorem RB (h:(iE v l).2≠0):(iE v l).1=[]:=by
 unfold iE at h ⊢;split
 ·rfl
 ·rename_i h1;rw [if_neg h1] at h;exact absurd rfl h
end
end Go.Toll
end
end
section
namespace Go.Toll
open Go Go.Abs
structure bW where
 id:Bytes
 veh:Bytes
 sys:Bytes
 cls:Int
 stops:List aX
def aD (x:bW):List AV:=[.str x.id,.str x.veh,.str x.sys,.int .i64 x.cls,.ro (x.stops.map ak)]
@[simp] theorem TM (x:bW):(aD x).length=5:=rfl
def bu (l:List aX):List Bytes:=(l.filter Vd).map (·.pass)
theorem vV {l:List aX} {i:Nat} {s:aX} (h:l[i]? =some s):bu (l.take (i+1))=if s.pass=[] then bu (l.take i) else bu (l.take i)++[s.pass]:=by
 rw [zM,h];by_cases c:s.pass=[] <;> simp [bu,Vd,c]
theorem yC (l:List aX):(bu l).length≤l.length:=by rw [bu,List.length_map];exact List.length_filter_le _ _
def Le (x:bW):Bytes:=(bu x.stops).headD x.id
def Dr (x:bW):Iv:=match x.stops with
 | []=>⟨0,0⟩
 | a::l=>⟨a.time,IntKind.i64.wrap (((a::l).getLastD a).time+1)⟩
def jf (t:aY)(s:Bytes):Bytes:=((fF t s).getD sys0).name
def xJ (t:aY)(s:Bytes):Int:=((fF t s).getD sys0).most
def iM (t:aY)(before:Option aX):List aX→Int
 | []=>0
 | s::l=>if kindOf t s.point=0 then 16 else if s.time<0∨68719476736≤s.time then 12 else if before.any (fun a=>decide (s.time<a.time)) then 15 else iM t (some s) l
def Gr (l:List aX)(i:Nat):Option aX:=match i with
 | 0=>none
 | j+1=>l[j]?
theorem Mi {t:aY} {l:List aX} {i:Nat} {s:aX} (h:l[i]? =some s):iM t (Gr l i) (l.drop i)=if kindOf t s.point=0 then 16 else if s.time<0∨68719476736≤s.time then 12 else if (Gr l i).any (fun a=>decide (s.time<a.time)) then 15 else iM t (Gr l (i+1)) (l.drop (i+1)):=by
 rw [bq h,iM,show Gr l (i+1)=some s from h]
def jU (l:List aX):List aX:=(l.take (l.length - 1)).drop 1
def lY (t:aY)(l:List aX)(a b:aX):Bool:=
 if l.length=1 then decide (kindOf t a.point=1)
 else decide (kindOf t a.point=2) && decide (kindOf t b.point=3) && decide (jf t a.point=jf t b.point) && (jU l).all fun s=>decide (kindOf t s.point=4)
def kC (t:aY)(x:bW)(a b:aX):Int:=
 if x.sys≠jf t a.point then 6
 else if lY t x.stops a b=false then 1
 else if 1<x.stops.length∧xJ t a.point<b.time - a.time then 12
 else if x.id≠Le x then 6 else 0
def eP (t:aY)(x:bW):Int:=
 if x.id=[]∨x.veh=[] then 6
 else if x.cls<1∨9<x.cls then 20
 else match x.stops with
  | []=>1
  | a::l=>if iM t none (a::l)≠0 then iM t none (a::l) else kC t x a ((a::l).getLastD a)
end Go.Toll
end
section
namespace Go.Proofs.YtkpioblbeiaefaaGreat
open Go Go.Abs Go.Toll
variable {gl : aM} {h : af}
theorem FV (l:List Bytes): ∀e∈l.map aO,∀y∈e,y.Data:=fun e he y hy=>by
 obtain⟨m,_,rfl⟩:=List.mem_map.1 he;simp [aO] at hy;rw [hy];simp
set_option maxHeartbeats 1000000 in
theorem vv (x:bW)(hn:x.stops.length≤1000000):aa Tryz.prog gl 20 [.agg (aD x)] h fun v h'=>v= .ro ((bu x.stops).map aO)∧h'=h:=by
 refine aa.fresh' (aa.body Tryz.f20 _ mixed Tryz.func20 rfl rfl (by simp [Tryz.ntmps20]) ?_);simp [aD];refine aT.up mixed x.stops.length (fun i fr H=>fr 7= .ro (x.stops.map ak)∧fr 8= .int .i64 x.stops.length∧fr 9= .int .i64 i∧(∃g,H=h++g)∧ ∃z,fr 3=z∧Ls 1 h.length H z ((bu (x.stops.take i)).map aO)) 0 (by omega)
  ⟨by simp,by simp,by simp,⟨_,rfl⟩,.nil,by simp,by simpa [bu] using Ls.nil⟩ ?_
 rintro i fr H hi ⟨e7,e8,e9,hB,z,e3,hz⟩;have hzf:=hz.rs.fix;have hlH:=bJ hB;rcases zN i x.stops.length with hlt | hge
 ·obtain⟨s,hs,hs'⟩:=aJ hlt;have ew:=aB (i:=i) (by omega);have hsuc:=vV hs;have hpl:=yC (x.stops.take i);have htl:=List.length_take_le i x.stops;by_cases c:s.pass=[]
  ·rw [if_pos c] at hsuc;simp [ak,e3,e7,e8,e9,hlt,hs,hs',c,ew,hzf];exact⟨i+1,by omega,by omega,by omega,aI hB _,by rw [hsuc];exact hz.more _⟩
  ·rw [if_neg c] at hsuc;simp [-aj,-au,-ah,-AV.solid,ak,e3,e7,e8,e9,hlt,hs,hs',c,hzf];refine aN (lo:=h.length) (n:=1) (es:=(bu (x.stops.take i)).map aO) (ys:=[aO s.pass]) (by simpa [aO] using hz.more _) (by simp;omega) (by simp [bE,aO]) (by simp;omega) ?_;intro s1 H1 hs1 hg1 hn1;have hs1f:=hs1.rs.fix;have hB1:=hg1.base h (by omega) (aI hB _);simp [-aj,-au,-ah,-AV.solid,e7,e8,e9,hs1f,ew];exact⟨i+1,by omega,by omega,by omega,hB1,by rw [hsuc];simpa using hs1⟩
 ·obtain rfl:i=x.stops.length:=by omega
  rw [List.take_length] at hz;simp [e3,e7,e8,e9,hzf];exact⟨hB,hz.frz (Nat.le_refl _) (FV _)⟩
theorem Il (x:bW)(hn:x.stops.length≤1000000):aa Tryz.prog gl 22 [.agg (aD x)] h fun v h'=>v= .str (Le x)∧h'=h:=by
 refine aa.data (by simp) (aa.body Tryz.f22 _ mixed Tryz.func22 rfl rfl (by simp [Tryz.ntmps22]) ?_);simp [aD];refine ax.pure _ (fun _=>vv x hn) ?_;unfold Le
 cases hp:bu x.stops with
 | nil=>simp
 | cons a r=>
  have h1:(0:Int)<((r.length+1:Nat):Int):=by omega
  have h2:(0:Int)<(r.length:Int)+1:=by omega
  simp [aO,h1,h2]
theorem Px (x:bW)(hn:x.stops.length≤1000000):aa Tryz.prog gl 24 [.agg (aD x)] h fun v h'=>v= .agg (Bt (Dr x))∧h'=h:=by
 refine aa.data (by simp) (aa.body Tryz.f24 _ mixed Tryz.func24 rfl rfl (by simp [Tryz.ntmps24]) ?_)
 cases hp:x.stops with
 | nil=>
  have hsp:Dr x=⟨0,0⟩:=by unfold Dr;rw [hp]
  rw [hsp];simp [aD,hp,Bt]
 | cons a r=>
  have hlen:x.stops.length=r.length+1:=by rw [hp];rfl
  have h0: ¬((x.stops.length:Int)=0):=by omega
  have hne: ¬x.stops=[]:=by rw [hp];simp
  have hpos:0<x.stops.length:=by omega
  have w1:IntKind.i64.wrap ((x.stops.length:Int) - 1)=((x.stops.length - 1:Nat):Int):=by rw [aC (by omega) (by omega)];omega
  obtain⟨b,hb,hb'⟩:=aJ (l:=x.stops) (i:=x.stops.length - 1) (by omega);obtain⟨a',ha,ha'⟩:=aJ hpos;have e1:a'=a:=by rw [←ha'];simp [hp]
  subst e1;have hlt:x.stops.length - 1<x.stops.length:=by omega
  have hl:(a'::r).getLastD a'=b:=by
   rw [←hp,List.getLastD_eq_getLast?,List.getLast?_eq_getElem?,hb];rfl
  have hsp:Dr x=⟨a'.time,IntKind.i64.wrap (b.time+1)⟩:=by
   unfold Dr;rw [hp];show Iv.mk a'.time (IntKind.i64.wrap (((a'::r).getLastD a').time+1))=_;rw [hl]
  rw [hsp];simp [aD,ak,Bt,h0,hne,hpos,w1,ha,ha',hb,hb',hlt];decide
def Er:Nat→Option (List (Nat×Nat)):=fun id=>if id=4 then some [(0,10),(2,10),(4,10),(5,10)] else if id=5 then some [(0,11),(3,11),(5,11),(6,11)] else none
set_option maxHeartbeats 4000000 in
theorem ME (t:aY)(S:List aX)(a b:aX)(ha:S[0]? =some a)(hb:S[S.length - 1]? =some b)(hn:S.length≤1000000)(hp:t.net.pts.length≤1000)(hl:t.net.lks.length≤1000)(hs:t.sys.length≤1000):
  aa Tryz.prog gl 48 [.agg (aA t),.ro (S.map ak)] h fun v h'=>v= .bool (lY t S a b)∧h'=h:=by
 refine aa.data (.bool _) (aa.bodyL Er Tryz.f48 _ mixed Tryz.func48 rfl rfl (by simp [Tryz.ntmps48]) ?_);have hpos:=aK ha;have hlt:S.length - 1<S.length:=by omega
 have ha':=(zA.1 ha).2;have hb':=(zA.1 hb).2;have w1:IntKind.i64.wrap ((S.length:Int) - 1)=((S.length - 1:Nat):Int):=by rw [aC (by omega) (by omega)];omega
 have kd:=fun (H:af) (s:Bytes)=>jg (gl:=gl) (h:=H) t s hp hl hs;have sy:=fun (H:af) (s:Bytes)=>gU (gl:=gl) (h:=H) t s hp hl hs;by_cases hr:S.length=1
 ·have hz:((S.length - 1:Nat):Int)=0:=by omega
  have hz':S.length - 1=0:=by omega
  simp [Er,ak,w1,hz,hz',hpos,ha,ha'];refine⟨by decide,?_⟩;refine ax.pure _ (fun _=>kd _ a.point) ?_;simp [lY,hr];rfl
 ·have hz: ¬((S.length - 1:Nat):Int)=0:=by omega
  have hz': ¬S.length - 1=0:=by omega
  have hsh:lY t S a b=(decide (kindOf t a.point=2) && decide (kindOf t b.point=3) && decide (jf t a.point=jf t b.point) && (jU S).all fun s=>decide (kindOf t s.point=4)):=by
   unfold lY;rw [if_neg hr]
  have e1:jf t a.point=((fF t a.point).getD sys0).name:=rfl;have e2:jf t b.point=((fF t b.point).getD sys0).name:=rfl;have sya:=fun (H:af)=>sy H a.point;have syb:=fun (H:af)=>sy H b.point;generalize (fF t a.point).getD sys0=ya at*;generalize (fF t a.point).isSome=za at*;generalize (fF t b.point).getD sys0=yb at*;generalize (fF t b.point).isSome=zb at*;clear sy;simp [Er,ak,w1,hz,hz',hpos,hlt,ha,ha',hb,hb'];refine⟨by decide,?_⟩;refine ax.pure _ (fun _=>sya _) ?_;simp [Er,ak,w1,hz,hz',hpos,hlt,ha,ha',hb,hb'];refine⟨ax.pure _ (fun _=>sya _) (by simp),?_⟩;refine⟨by decide,?_⟩;refine ax.pure _ (fun _=>syb _) ?_;simp [Er,ak,w1,hz,hz',hpos,hlt,ha,ha',hb,hb'];refine⟨ax.pure _ (fun _=>syb _) (by simp),?_⟩;refine⟨by decide,?_⟩;refine ax.pure _ (fun _=>kd _ a.point) ?_;by_cases k1:kindOf t a.point=2
  case neg=>
   simp [Er,ak,w1,hz,hz',hpos,hlt,ha,ha',hb,hb',k1];refine ax.pure (.int .i64 0) (fun c=>by simp [k1] at c) ?_;simp [hsh,k1]
  simp [Er,ak,w1,hz,hz',hpos,hlt,ha,ha',hb,hb',k1];refine ax.pure _ (fun _=>kd _ b.point) ?_;by_cases k2:kindOf t b.point=3
  case neg=>
   simp [k2];simp [hsh,k2]
  by_cases k3:ya.name=yb.name
  case neg=>
   simp [k2,k3];simp [hsh,k1,k2,e1,e2,k3]
  simp [k2,k3];have hil:(jU S).length=S.length - 1 - 1:=by simp [jU]
  have hin:((S.map ak).take (S.length - 1)).drop 1=(jU S).map ak:=by simp [jU]
  have hsh2:lY t S a b=(jU S).all fun s=>decide (kindOf t s.point=4):=by rw [hsh,e1,e2];simp [k1,k2,k3]
  refine⟨by omega,?_⟩;refine aT.upL Er mixed (jU S).length (fun i fr H=>fr 2= .ptr h.length 0 0∧fr 69= .ro ((jU S).map ak)∧fr 70= .int .i64 (jU S).length∧fr 71= .int .i64 i∧lY t S a b=((jU S).drop i).all (fun s=>decide (kindOf t s.point=4))∧H[h.length]? =some (.cells 3 [aA t])∧ ∃g,H=h++g) 0 (by omega)
   ⟨by simp,by simp [←hin],by simp [hil],by simp,by simpa using hsh2,by simp,_,rfl⟩ ?_
  rintro i fr H hi ⟨f2,f69,f70,f71,hf,hT,hB⟩;have hT3:=at3 hT;simp only [aA] at hT3;generalize jU S=L at*;have hL:L.length≤1000000:=by omega
  rcases zN i L.length with hlt2 | hge
  ·obtain⟨s,hss,hss'⟩:=aJ hlt2;have ew:=aB (i:=i) (by omega);rw [bq hss,List.all_cons] at hf;have hH:=aK hT;have hT3':=at3 (aP hT [.cells 3 [ak s]]);simp only [aA,ak] at hT3';simp [Er,ak,f2,f69,f70,f71,hlt2,hss,hss',hT3,hT3'];refine ax.pure _ (fun _=>kd _ s.point) ?_;by_cases k4:kindOf t s.point=4
   ·simp [k4,f2,f69,f70,f71,ew];refine⟨i+1,by omega,by omega,by omega,by rw [hf];simp [k4],?_,aI hB _⟩;simpa [ak] using aP hT [.cells 3 [ak s]]
   ·simp [k4,f2,f69,f70,f71,ew];exact⟨by rw [hf];simp [k4],aI hB _⟩
  ·rw [zH hge] at hf;have hge': ¬(i:Int)<L.length:=by omega
   simp [Er,f2,f69,f70,f71,Nat.not_lt.2 hge,hge',hf];exact hB
theorem ww {t:aY}: ∀ {l:List aX} {b:Option aX},iM t b l=0→ ∀s∈l,kindOf t s.point≠0∧0≤s.time∧s.time<68719476736
 | [],_,_,s,hs=>by cases hs
 | x::l,b,h,s,hs=>by
  rw [iM] at h;split at h
  ·cases h
  split at h
  ·cases h
  split at h
  ·cases h
  rcases List.mem_cons.1 hs with rfl | hs
  ·rename_i h1 h2 _;exact⟨h1,by omega,by omega⟩
  ·exact ww h s hs
theorem r16:List.range 16=[0,1,2,3,4,5,6,7,8,9,10,11,12,13,14,15]:=rfl
def jK:Nat→Option rE:=fun id=>if id=17 then some (.perm [([0,1,2,3,4,5,6,7,8,9,10,11,12,13,14,15],[(1,13),(1,14),(2,13),(2,14),(3,13),(3,14),(5,13),(5,14),(5,15),(7,13),(7,14),(7,15),(8,13),(8,14),(8,15),(10,13),(10,14),(10,15),(11,13),(11,14),(11,15)]),([0,1,2,3,4,5,6,7,8,9,10,11,13,12,14,15],[(1,13),(1,14),(2,13),(2,14),(3,13),(3,14),(5,13),(5,14),(5,15),(7,13),(7,14),(7,15),(8,13),(8,14),(8,15),(10,13),(10,14),(10,15),(11,13),(11,14),(11,15)])]) else none
set_option maxHeartbeats 8000000 in
theorem wD (t:aY)(x:bW)(hn:x.stops.length≤1000000)(hp:t.net.pts.length≤1000)(hl:t.net.lks.length≤1000)(hs:t.sys.length≤1000):
  aa Tryz.prog gl 18 [.agg (aA t),.agg (aD x)] h fun v h'=>v= .int .i64 (eP t x)∧h'=h:=by
 refine aa.data (by simp) (aa.bodyN jK Tryz.f18 _ mixed Tryz.func18 rfl rfl (by simp [Tryz.ntmps18]) ?_);have kd:=fun (H:af) (s:Bytes)=>jg (gl:=gl) (h:=H) t s hp hl hs;by_cases c1:x.id=[]
 ·simp [jK,-aS,aD,eP,c1]
 by_cases c2:x.veh=[]
 ·simp [jK,-aS,aD,eP,c1,c2]
 have hE0:eP t x=if x.cls<1∨9<x.cls then 20 else match x.stops with
  | []=>1
  | a::l=>if iM t none (a::l)≠0 then iM t none (a::l) else kC t x a ((a::l).getLastD a):=by
  unfold eP;rw [if_neg (by intro c;rcases c with c | c;exact c1 c;exact c2 c)];all_goals rfl
 by_cases c3:x.cls<1
 ·rw [hE0,if_pos (.inl c3)];simp [jK,-aS,aD,c1,c2,c3]
 by_cases c4:9<x.cls
 ·rw [hE0,if_pos (.inr c4)];simp [jK,-aS,aD,c1,c2,c3,c4]
 rw [if_neg (by omega)] at hE0;by_cases c5:x.stops=[]
 ·rw [hE0,c5];simp [jK,-aS,aD,c1,c2,c3,c4,c5]
 have hpos:=List.length_pos_iff.2 c5;obtain⟨a,ha,ha'⟩:=aJ hpos;obtain⟨b,hb,hb'⟩:=aJ (l:=x.stops) (i:=x.stops.length - 1) (by omega);have hE:eP t x=if iM t none x.stops≠0 then iM t none x.stops else kC t x a b:=by
  rw [hE0]
  cases hx:x.stops with
  | nil=>exact absurd hx c5
  | cons a' l=>
   have e1:a'=a:=by rw [←ha'];simp [hx]
   have e2:(a'::l).getLastD a'=b:=by rw [←hx,List.getLastD_eq_getLast?,List.getLast?_eq_getElem?,hb];rfl
   subst e1;show (if _ then _ else kC t x a' ((a'::l).getLastD a'))=_;rw [e2]
 have h0: ¬((x.stops.length:Int)=0):=by omega
 have hlt:x.stops.length - 1<x.stops.length:=by omega
 have w1:IntKind.i64.wrap ((x.stops.length:Int) - 1)=((x.stops.length - 1:Nat):Int):=by rw [aC (by omega) (by omega)];omega
 rw [hE];clear hE0 hE;simp [jK,-aS,aD,c1,c2,c3,c4,c5,h0];refine aT.upN jK mixed x.stops.length (fun i fr H=>fr 2= .ptr h.length 0 0∧fr 3= .ptr (h.length+1) 0 0∧fr 35= .ro (x.stops.map ak)∧fr 36= .int .i64 x.stops.length∧fr 37= .int .i64 i∧iM t none x.stops=iM t (Gr x.stops i) (x.stops.drop i)∧H[h.length]? =some (.cells 3 [aA t])∧H[h.length+1]? =some (.cells 5 [aD x])∧ ∃g,H=h++g) 0 (by omega)
  ⟨by simp,by simp,by simp,by simp,by simp,by simp [Gr],by simp,by simp [aD],_,rfl⟩ ?_
 rintro i fr H hi ⟨f2,f3,f35,f36,f37,hf,hT,hX,hB⟩;rw [hf];have hT3:=at3 hT;have hX3:=at3 hX;simp only [aA] at hT3;simp only [aD] at hX3;rcases zN i x.stops.length with hlt2 | hge
 ·obtain⟨s,hss,hss'⟩:=aJ hlt2;have ew:=aB (i:=i) (by omega);rw [Mi hss] at hf ⊢;have hT3':=at3 (aP hT [.cells 3 [ak s]]);have hX3':=at3 (aP hX [.cells 3 [ak s]]);simp only [aA,ak] at hT3';simp only [aD,ak] at hX3';simp [jK,-aS,ak,f2,f3,f35,f36,f37,hlt2,hss,hss',hT3'];refine ax.pure _ (fun _=>kd _ s.point) ?_;by_cases q1:kindOf t s.point=0
  ·simp [jK,-aS,q1,f2,f3];exact aI hB _
  by_cases q2:s.time<0
  ·simp [jK,-aS,q1,q2,f2,f3];exact aI hB _
  by_cases q3:68719476736≤s.time
  ·simp [jK,-aS,q1,q2,q3,f2,f3];exact aI hB _
  cases i with
  | zero=>
   have hbf:Gr x.stops 0=none:=rfl;simp only [hbf,Option.any_none] at hf ⊢;simp [jK,q1,q2,q3,f2,f3,f35,f36,f37];refine⟨by decide,1,by omega,by omega,by decide,by simp,by simpa [ak] using aP hT [.cells 3 [ak s]],by simpa [ak,aD] using aP hX [.cells 3 [ak s]],aI hB _⟩
  | succ j=>
   obtain⟨y,hy,hy'⟩:=aJ (l:=x.stops) (i:=j) (by omega);have hj:j<x.stops.length:=by omega
   have hbf:Gr x.stops (j+1)=some y:=hy;simp only [hbf,Option.any_some] at hf ⊢;have w2:IntKind.i64.wrap (((j+1:Nat):Int) - 1)=(j:Int):=by rw [aC (by omega) (by omega)];omega
   have hjp:(0:Int)<((j+1:Nat):Int):=by omega
   by_cases q4:s.time<y.time
   ·simp [-Int.natCast_add,jK,ak,q1,q2,q3,q4,f2,f3,f35,f36,f37,hy,hy',hj,w2,hjp,hX3',ew];exact⟨by decide,aI hB _⟩
   ·simp [-Int.natCast_add,jK,ak,q1,q2,q3,q4,f2,f3,f35,f36,f37,hy,hy',hj,w2,hjp,hX3',ew];refine⟨by decide,j+1+1,by omega,by omega,rfl,rfl,by simpa [ak] using aP hT [.cells 3 [ak s]],by simpa [ak,aD] using aP hX [.cells 3 [ak s]],aI hB _⟩
 ·obtain rfl:i=x.stops.length:=by omega
  have hz:iM t none x.stops=0:=by rw [hf,List.drop_length];rfl
  rw [List.drop_length];have hz2:iM t (Gr x.stops x.stops.length) []=0:=rfl;rw [hz2,if_pos (rfl:(0:Int)=0)];simp [jK,-aS,f2,f3,f35,f36,f37];rw [aS];simp only [jK,if_true];refine⟨by decide,?_⟩;generalize hK:gN _ _ Exit.normal=K;have key: ∀fr' h' k7 k8,fr' 2= .ptr h.length 0 0→fr' 3= .ptr (h.length+1) 0 0→fr' 7= .ptr k7 0 0→fr' 8= .ptr k8 0 0→h'[h.length]? =some (.cells 3 [aA t])→h'[h.length+1]? =some (.cells 5 [aD x])→
    h'[k7]? =some (.cells 3 [ak a])→h'[k8]? =some (.cells 3 [ak b])→(∃g,h'=h++g)→K fr' h':=by
   intro fr' h' k7 k8 g2 g3 g7 g8 hT hX h7 h8 hB;rw [←hK];have hT3:=at3 hT;have hX3:=at3 hX;have h73:=at3 h7;have h83:=at3 h8;simp only [aA] at hT3;simp only [aD] at hX3;simp only [ak] at h73 h83;have e1:jf t a.point=((fF t a.point).getD sys0).name:=rfl;have e2:xJ t a.point=((fF t a.point).getD sys0).most:=rfl;have sya:=fun (H:af)=>gU (gl:=gl) (h:=H) t a.point hp hl hs;have shp:=fun (H:af)=>ME (gl:=gl) (h:=H) t x.stops a b ha hb hn hp hl hs;have tid:=fun (H:af)=>Il (gl:=gl) (h:=H) x hn;simp [jK,-aS,g2,g3,g7,g8,hT3,h73];refine ax.pure _ (fun _=>sya _) ?_;unfold kC;rw [e1,e2];generalize (fF t a.point).getD sys0=ya at*;generalize (fF t a.point).isSome=za at*;have hTq:=at3 (aP hT [.cells 3 [dO ya]]);have hXq:=at3 (aP hX [.cells 3 [dO ya]]);have h7q:=at3 (aP h7 [.cells 3 [dO ya]]);have h8q:=at3 (aP h8 [.cells 3 [dO ya]]);simp only [aA,dO] at hTq;simp only [aD,dO] at hXq;simp only [ak,dO] at h7q h8q;by_cases p1:x.sys=ya.name
   case neg=>
    simp [jK,-aS,g2,g3,g7,g8,hXq,p1];exact aI hB _
   simp [jK,-aS,g2,g3,g7,g8,hXq,hTq,p1];refine ax.pure _ (fun _=>shp _) ?_
   cases p2:lY t x.stops a b with
   | false=>
    simp [jK,-aS,g2,g3,g7,g8];exact aI hB _
   | true=>
    have ra:=ww hz a (zF ha);have rb:=ww hz b (zF hb);have wd:IntKind.i64.wrap (b.time - a.time)=b.time - a.time:=aC (by omega) (by omega);by_cases c6:1<x.stops.length
    ·have c6':(1:Int)<x.stops.length:=by omega
     by_cases c7:ya.most<b.time - a.time
     ·simp [jK,-aS,g2,g3,g7,g8,hXq,hTq,h7q,h8q,wd,c6,c6',c7];exact aI hB _
     ·simp [jK,-aS,g2,g3,g7,g8,hXq,hTq,h7q,h8q,wd,c6,c6',c7];simp [jK,g2,g3,g7,g8,hXq,hTq,h7q,h8q];refine⟨by decide,?_⟩;refine ax.pure _ (fun _=>tid _) ?_;by_cases c8:x.id=Le x
      ·simp [jK,←c8,g2,g3];exact aI hB _
      ·simp [jK,c8,g2,g3];exact aI hB _
    ·have c6': ¬(1:Int)<x.stops.length:=by omega
     simp [jK,-aS,g2,g3,g7,g8,hXq,hTq,h7q,h8q,wd,c6,c6'];simp [jK,g2,g3,g7,g8,hXq,hTq,h7q,h8q];refine⟨by decide,?_⟩;refine ax.pure _ (fun _=>tid _) ?_;by_cases c8:x.id=Le x
     ·simp [jK,←c8,g2,g3];exact aI hB _
     ·simp [jK,c8,g2,g3];exact aI hB _
  rw [kg,kg];have hH:=hX3.2.1;refine⟨⟨by decide+kernel,?_⟩,⟨by decide+kernel,?_⟩,trivial⟩
  ·simp [aR,ko,mI,uS,cK,r16,ak,f2,f3,hX3,hpos,ha,ha',hb,hb',hlt,w1];exact key _ _ H.length (H.length+1) (by simp [f2]) (by simp [f3]) (by simp) (by simp) (aP hT _) (aP hX _) (by simp [ak]) (by simp [ak]) (aI hB _)
  ·simp [aR,ko,mI,uS,cK,r16,ak,f2,f3,hX3,hpos,ha,ha',hb,hb',hlt,w1];exact key _ _ (H.length+1) H.length (by simp [f2]) (by simp [f3]) (by simp) (by simp) (aP hT _) (aP hX _) (by simp [ak]) (by simp [ak]) (aI hB _)
end Go.Proofs.YtkpioblbeiaefaaGreat
end
section
namespace Go.Toll
open Go Go.Abs
def J7:Sh:=XN .str Nr
def Dl:Sh:= .st (.cons .str (.cons .str (.cons Nr (.cons .str (.cons .str (.cons Nr (.cons Nr (.cons (.sl J7) .none))))))))
def ay.dat (p:ay):Prop:= ∀e∈p.sources,∀v∈e,v.Data
structure jq where
 dev:Bytes
 seq:Int
deriving DecidableEq
def intOf:AV→Int
 | .int _ n=>n
 | _=>0
def bN (s:jq):List AV:=[.str s.dev,.int .i64 s.seq]
def KZ (e:List AV):jq:=⟨strOf (e.getD 0 .junk),intOf (e.getD 1 .junk)⟩
@[simp] theorem UR (s:jq):KZ (bN s)=s:=rfl
def ay.srcs (p:ay):List jq:=p.sources.map KZ
structure ay.Ok (p:ay):Prop where
 src:p.sources=p.srcs.map bN
 id:eG p.id
 point:eG p.point
 tag:eG p.tag
 plate:eG p.plate
 dev: ∀s∈p.srcs,eG s.dev
 n:p.sources.length≤maxLen
theorem ay.Ok.dat {p:ay} (h:p.Ok):p.dat:=by
 intro e he v hv;rw [h.src] at he;obtain⟨s,_,rfl⟩:=List.mem_map.1 he;simp [bN] at hv;rcases hv with rfl | rfl <;> simp
theorem QM {es:List AV} (h:Dl.ok es): ∃p:ay,es=ae p∧p.Ok:=by
 obtain⟨a,_,rfl,h1,b,_,rfl,h2,c,_,rfl,h3,d,_,rfl,h4,e,_,rfl,h5,f,_,rfl,h6,g,_,rfl,h7,i,_,rfl,h8,rfl⟩:=h;obtain⟨a,rfl,ha⟩:=Ev h1;obtain⟨b,rfl,hb⟩:=Ev h2;obtain⟨c,rfl,_⟩:=Hg h3;obtain⟨d,rfl,hd⟩:=Ev h4;obtain⟨e,rfl,he⟩:=Ev h5;obtain⟨f,rfl,_⟩:=Hg h6;obtain⟨g,rfl,_⟩:=Hg h7;obtain⟨l,rfl,hn,hl⟩:=QL (enc:=bN) (Q:=fun s=>eG s.dev) h8 fun es h=>by
  obtain⟨_,_,rfl,g1,g2⟩:=LA h;obtain⟨x,rfl,hx⟩:=Ev g1;obtain⟨y,rfl,_⟩:=Hg g2;exact⟨⟨x,y⟩,rfl,hx⟩
 have e1:(ay.mk a b c d e f g (l.map bN)).srcs=l:=by
  show (l.map bN).map KZ=l;rw [List.map_map];exact List.map_id'' (fun s=>rfl) l
 exact⟨⟨a,b,c,d,e,f,g,l.map bN⟩,rfl,⟨by rw [e1],ha,hb,hd,he,by rw [e1];exact hl,by simpa using hn⟩⟩
def ig (a b:Int):Int:=if a<b then -1 else if b<a then 1 else 0
def iZ (a b:Bytes):Int:=if a=b then 0 else if Op.bytesLess a b=true then -1 else 1
def eu (a b:jq):Int:=if a.dev=b.dev then ig a.seq b.seq else iZ a.dev b.dev
def cO:List jq→List jq→Int
 | a::r,b::q=>if eu a b≠0 then eu a b else cO r q
 | r,q=>ig r.length q.length
def cz:List Int→Int
 | []=>0
 | a::r=>if a≠0 then a else cz r
def cmpL (a b:ay):List Int:=[ig a.time b.time,iZ a.point b.point,iZ a.id b.id,iZ a.tag b.tag,iZ a.plate b.plate,ig a.cls b.cls,ig a.score b.score,cO a.srcs b.srcs]
def rX (a b:ay):Int:=cz (cmpL a b)
theorem ER (a:Bytes):iZ a a=0:=by rw [iZ,if_pos rfl]
theorem ES {a b:Bytes} (h:iZ a b=0):a=b:=by
 unfold iZ at h;split at h
 ·assumption
 split at h <;> cases h
theorem Qa (a b c:Nat):ig ((c+a:Nat):Int) ((c+b:Nat):Int)=ig a b:=by
 have h1:((c+a:Nat):Int)<((c+b:Nat):Int)↔(a:Int)<b:=by omega
 have h2:((c+b:Nat):Int)<((c+a:Nat):Int)↔(b:Int)<a:=by omega
 unfold ig;simp only [h1,h2]
end Go.Toll
end
