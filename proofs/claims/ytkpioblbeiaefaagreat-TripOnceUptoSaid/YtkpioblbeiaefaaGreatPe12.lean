/- Part 12 of the lemmas below the statements of this seat: TollSeen, TollMove, TollInfer, TollTrip, TripA, TripB, TollSeenShape, TollPass. -/
import Derived.Test.YtkpioblbeiaefaaGreatPe11
set_option linter.unusedSectionVars false
set_option linter.unusedVariables false
set_option linter.unusedSimpArgs false
set_option linter.unnecessarySimpa false
set_option maxRecDepth 100000
section
namespace Go.Toll
open Go Go.Abs
structure aA where
 id:Bytes
 point:Bytes
 time:Int
 tag:Bytes
 plate:Bytes
 cls:Int
 score:Int
 sources:List (List AV)
def aj (p:aA):List AV:=[.str p.id,.str p.point,.int .i64 p.time,.str p.tag,.str p.plate,.int .i64 p.cls,.int .i64 p.score,.ro p.sources]
@[simp] theorem Ro (s:aA):(aj s).length=8:=rfl
@[simp] theorem dm (p:aA):aj p=[.str p.id,.str p.point,.int .i64 p.time,.str p.tag,.str p.plate,.int .i64 p.cls,.int .i64 p.score,.ro p.sources]:=rfl
def iC (s:Bytes):Prop:=s.length≤9223372036854775807
theorem MJ (a b:UInt8)(x y:Bytes):Op.bytesLess (a::x) (b::y)=(decide (a<b) || (a==b && Op.bytesLess x y)):=rfl
theorem MK {a b:Bytes} {i:Nat} {x y:UInt8} (hx:a[i]? =some x)(hy:b[i]? =some y):Op.bytesLess (a.drop i) (b.drop i)=(decide (x<y) || (x==y && Op.bytesLess (a.drop (i+1)) (b.drop (i+1)))):=by
 rw [bv hx,bv hy,MJ]
theorem OJ {a b:Bytes} {i:Nat} (h:a.length≤i∨b.length≤i)(ha:i≤a.length)(hb:i≤b.length):Op.bytesLess (a.drop i) (b.drop i)=decide (a.length<b.length):=by
 rcases h with h | h
 ·rw [zH h];rcases zN i b.length with h1 | h1
  ·obtain⟨y,hy,_⟩:=aN h1;rw [bv hy];have:a.length<b.length:=by omega
   simp [Op.bytesLess,this]
  ·rw [zH h1];have: ¬a.length<b.length:=by omega
   simp [Op.bytesLess,this]
 ·rw [zH h];have: ¬a.length<b.length:=by omega
  cases a.drop i <;> simp [Op.bytesLess,this]
theorem WK (x y:UInt8):((x.toNat:Int)=(y.toNat:Int))=(x=y):=propext ⟨fun e=>UInt8.toNat_inj.1 (by omega),fun e=>by rw [e]⟩
end Go.Toll
end
section
section
namespace Go.Toll
open Go Go.Abs
theorem Ck (t:aZ):bW (aI t).net=(aI t).net:=by rw [bW,if_pos (eQ t)]
theorem RH (t:aZ):aU (aI t).net:=si (eQ t)
def ja (s t:Int):Bool:=bE s && bE t && decide (s<t)
def tZ (v:bg)(dt:Int)(q:List Bytes):Bool:=decide ((bD v q).2.2=0∧(bD v q).1≤dt∧dt≤(bD v q).2.1)
def PH (v:bg)(a b:Bytes)(dt:Int):List (List Bytes):=(eP v a b).1.filter (tZ v dt)
def bV (v:bg)(a b:Bytes)(s t:Int):List (List Bytes)×Int:=
 if (aG v.pts a && aG v.pts b)=false then ([],16)
 else if ja s t=false then ([],12)
 else if (eP v a b).2≠0 then ([],(eP v a b).2)
 else if PH v a b (t - s)=[] then ([],21) else (PH v a b (t - s),0)
def uA (v:bg)(a b:Bytes):Int:=if a=b then 60 else match l9 v a b with
 | some (_,d)=>d
 | none=>300
def xO (v:bg)(a b:Bytes)(s t:Int):Bool:=aG v.pts a && aG v.pts b && ja s t && decide (uA v a b≤t - s)
section
variable {v : bg}
theorem JQ (ok:aU v)(a b:Bytes):1≤uA v a b:=by
 unfold uA;split
 ·omega
 ·rename_i hab;rcases zR ok a b with⟨l,d,e,hb,_⟩ | ⟨e,_⟩
  ·rw [e];obtain⟨s,h1,h2⟩:=hb.walk;have h3:=(uW ok h1).1;have hl:l≠[]:=by rintro rfl;exact hab hb.ends
   have:=List.length_pos_iff.2 hl;show 1≤d;omega
  ·rw [e];show (1:Int)≤300;omega
theorem BG (ok:aU v) {a b:Bytes} {s t:Int} {q:List Bytes} (h:q∈(bV v a b s t).1):
  ∃l w,EA v a b q l w∧w.1≤t - s∧t - s≤w.2∧ja s t=true∧aG v.pts a=true∧aG v.pts b=true:=by
 unfold bV at h;split at h
 ·cases h
 rename_i h1;split at h
 ·cases h
 rename_i h2;split at h
 ·cases h
 split at h
 ·cases h
 obtain⟨h3,h4⟩:=List.mem_filter.1 h;obtain⟨i,hi,e⟩:=List.mem_iff_getElem.1 h3;obtain⟨l,w,hp⟩:=LC ok (a:=a) (b:=b) (i:=i) (q:=q) (by rw [zB hi,e]);have h5:=of_decide_eq_true h4;rw [hp.bnd] at h5;rw [Bool.not_eq_false,Bool.and_eq_true] at h1;exact⟨l,w,hp,h5.2.1,h5.2.2,by simpa using h2,h1.1,h1.2⟩
theorem BH (ok:aU v) {a b:Bytes} {s t:Int} {q:List Bytes} (h:q∈(bV v a b s t).1):xO v a b s t=true∧2≤q.length:=by
 obtain⟨l,w,hp,h1,h2,h3,ha,hb⟩:=BG ok h;have hlt:s<t:=by
  unfold ja at h3;rw [Bool.and_eq_true] at h3;exact of_decide_eq_true h3.2
 have hl:l≠[]:=by
  rintro rfl;have:=hp.walk;rw [wk] at this;injection this with this;rw [←this] at h2;have:t - s≤0:=h2;omega
 have hab:a≠b:=by
  intro e;have h5:=hp.nd;rw [hp.eq] at h5;have h6:=nV a l;obtain⟨x,r,rfl⟩:=List.exists_cons_of_ne_nil hl;have h7:dJ a (x::r)∈x::r:=nV x r;rw [hp.ends,←e] at h7;exact (List.nodup_cons.1 h5).1 h7
 refine⟨?_,by rw [hp.eq];have:=List.length_pos_iff.2 hl;simp;omega⟩;unfold xO;rw [ha,hb,h3];simp only [Bool.and_self,Bool.true_and,decide_eq_true_eq];unfold uA;rw [if_neg hab];rcases zR ok a b with⟨l',d,e,hbest,_⟩ | ⟨e,hno⟩
 ·rw [e];have:=(Ma hbest hp).1;show d≤t - s;omega
 ·exact absurd ⟨l,w,hp.walk,hp.ends⟩ (hno ha hb)
end
end Go.Toll
end
section
namespace Go.Toll
open Go Go.Abs
end Go.Toll
end
end
section
section
namespace Go.Toll
open Go Go.Abs
theorem qD {v:bg} {p:List Bytes} (h:(bD v p).2.2=0): ∃a l s,p=a::l∧(∀z∈a::l,aG v.pts z=true)∧wk v a l=some s∧bD v p=(s.1,s.2,0):=by
 cases p with
 | nil=>simp [bD] at h
 | cons a l=>
  by_cases hall:(a::l).all (aG v.pts)=true
  ·have hall2:=List.all_eq_true.1 hall;rw [jL hall2] at h
   cases hw:wk v a l with
   | none=>rw [hw] at h;simp at h
   | some s=>exact⟨a,l,s,rfl,hall2,hw,by rw [jL hall2,hw]⟩
  ·rw [bD,if_neg hall] at h;simp at h
def fC (v:bg)(p:List Bytes)(k:Nat):Nat:=(bD v (p.take k)).1.toNat
theorem qE {v:bg} (ok:aU v) {p:List Bytes} (h:(bD v p).2.2=0) {k:Nat} (hk:1≤k)(hkp:k≤p.length):
  (bD v (p.take k)).2.2=0∧(bD v (p.take k)).1=(fC v p k:Int)∧fC v p k≤fC v p p.length:=by
 obtain⟨a,l,s,rfl,hall,hw,hb⟩:=qD h;obtain⟨j,rfl⟩: ∃j,k=j+1:=⟨k - 1,by omega⟩;have hsp:l=l.take j++l.drop j:=(List.take_append_drop j l).symm;rw [hsp] at hw;obtain⟨t,u,h1,h2,rfl⟩:=kY.1 hw;have r1:=uW ok h1;have r2:=uW ok h2;have hall2: ∀z∈a::l.take j,aG v.pts z=true:=fun z hz=>hall z (by
  rcases List.mem_cons.1 hz with rfl | hz
  ·simp
  ·exact List.mem_cons_of_mem _ (List.mem_of_mem_take hz))
 have hb2:bD v ((a::l).take (j+1))=(t.1,t.2,0):=by rw [List.take_succ_cons,jL hall2,h1]
 have hl0:=Int.natCast_nonneg (l.take j).length;have hl1:=Int.natCast_nonneg (l.drop j).length;refine⟨by rw [hb2],?_,?_⟩
 ·rw [fC,hb2];show t.1=(t.1.toNat:Int);omega
 ·rw [fC,fC,hb2,List.take_length,hb];show t.1.toNat≤(t.1+u.1).toNat;omega
theorem Fg {v:bg} (ok:aU v) {p:List Bytes} (h:(bD v p).2.2=0)(hp:p.length≤16):(bD v p).1=(fC v p p.length:Int)∧fC v p p.length<68719476736∧(2≤p.length→1≤fC v p p.length)∧fC v p 1=0∧1≤p.length:=by
 obtain⟨a,l,s,rfl,hall,hw,hb⟩:=qD h;obtain⟨r1,r2,r3⟩:=uW ok hw;have hl0:=Int.natCast_nonneg l.length;have hll:(l.length:Int)≤15:=by simp at hp;omega
 have h1:fC v (a::l) 1=0:=by
  have:bD v ((a::l).take 1)=(0,0,0):=by
   rw [List.take_succ_cons,List.take_zero,jL (fun z hz=>hall z (by simp at hz;simp [hz])),Qb]
  rw [fC,this];rfl
 have e:fC v (a::l) (a::l).length=s.1.toNat:=by rw [fC,List.take_length,hb]
 rw [e,hb];refine⟨by show s.1=(s.1.toNat:Int);omega,by omega,fun h2=> ?_,h1,by simp⟩;have:(1:Int)≤l.length:=by simp at h2;omega
 omega
def dP (v:bg)(p:List Bytes)(s t:Int)(k:Nat):Int:=s+(((t - s).toNat* fC v p (k+1) / fC v p p.length:Nat):Int)
def pO (v:bg)(p:List Bytes)(s t:Int):List Int:=(List.range p.length).map (dP v p s t)
def Cb (v:bg)(p:List Bytes)(s t:Int):List Int×Int:=
 if 16<p.length then ([],3)
 else if (bE s && bE t && decide (s≤t))=false then ([],12)
 else if (bD v p).2.2≠0 then ([],(bD v p).2.2) else (pO v p s t,0)
def nU (n:Int):List AV:=[.int .i64 n]
@[simp] theorem Ue (n:Int):(nU n).length=1:=rfl
def pM (v:bg)(p:List Bytes)(s t:Int)(k:Nat):List Int:=(List.range k).map (dP v p s t)
theorem yu (v:bg)(p:List Bytes)(s t:Int)(k:Nat):pM v p s t (k+1)=pM v p s t k++[dP v p s t k]:=by rw [pM,List.range_succ,List.map_append];rfl
theorem KI (v:bg)(p:List Bytes)(s t:Int)(k:Nat):(pM v p s t k).length=k:=by simp [pM]
theorem KH (v:bg)(p:List Bytes)(s t:Int):pM v p s t p.length=pO v p s t:=rfl
def uo (q:List Bytes):List Bytes:=(q.take (q.length - 1)).drop 1
def eG (v:bg)(a b:Bytes)(s t:Int):List Bytes×Int:=
 if (bV v a b s t).2≠0 then ([],(bV v a b s t).2)
 else if 1<(bV v a b s t).1.length then ([],11) else (uo ((bV v a b s t).1.headD []),0)
theorem JI {a:Bytes} {l:List Bytes} {b:Bytes} (hl:l≠[])(he:dJ a l=b):a::l=a::(uo (a::l)++[b]):=by
 rcases List.eq_nil_or_concat l with rfl | ⟨m,x,rfl⟩
 ·exact absurd rfl hl
 ·have hx:x=b:=by rw [←he];simp only [List.concat_eq_append];exact (eO a m x).symm
  subst hx;simp [uo]
theorem Ki {v:bg} (a b:Bytes)(s t:Int):(bV v a b s t).2=0→(bV v a b s t).1≠[]:=by
 unfold bV;split
 ·simp
 split
 ·simp
 split
 ·rename_i h;exact fun e=>absurd e h
 split
 ·simp
 ·rename_i h;exact fun _=>h
theorem zf {v:bg} (ok:aU v) {a b:Bytes} {s t:Int} (h:(eG v a b s t).2=0):
  (bD v (a::((eG v a b s t).1++[b]))).2.2=0∧(a::((eG v a b s t).1++[b])).length≤16∧bE s=true∧bE t=true∧s<t∧
   Cb v (a::((eG v a b s t).1++[b])) s t=(pO v (a::((eG v a b s t).1++[b])) s t,0)∧ ∃q,(bV v a b s t)=([q],0)∧q=a::((eG v a b s t).1++[b]):=by
 by_cases h1:(bV v a b s t).2=0
 ·by_cases h2:1<(bV v a b s t).1.length
  ·rw [eG,if_neg (by simp [h1]),if_pos h2] at h;cases h
  ·have hne:=Ki a b s t h1;obtain⟨q,r,hqr⟩:=List.exists_cons_of_ne_nil hne;have hr:r=[]:=by
    rw [hqr] at h2
    cases r with
    | nil=>rfl
    | cons x r=>simp at h2
   subst hr;have hq:q∈(bV v a b s t).1:=by rw [hqr];simp
   obtain⟨l,w,hp,_,_,hlat,_,_⟩:=BG ok hq;obtain⟨_,hq2⟩:=BH ok hq;have hl:l≠[]:=by rintro rfl;rw [hp.eq] at hq2;simp at hq2
   have hm:(eG v a b s t).1=uo q:=by rw [eG,if_neg (by simp [h1]),if_neg h2,hqr];rfl
   have hpath:a::((eG v a b s t).1++[b])=q:=by rw [hm,hp.eq];exact (JI hl hp.ends).symm
   rw [hpath];have hb:(bD v q).2.2=0:=by rw [hp.bnd]
   have hlat':(bE s=true∧bE t=true)∧s<t:=by
    unfold ja at hlat;simpa [Bool.and_eq_true] using hlat
   have hlen:=hp.len;refine⟨hb,hlen,hlat'.1.1,hlat'.1.2,hlat'.2,?_,q,?_,rfl⟩
   ·rw [Cb,if_neg (by omega),if_neg (by rw [hlat'.1.1,hlat'.1.2,decide_eq_true (by omega:s≤t)];simp),if_neg (by simp [hb])]
   ·have:bV v a b s t=((bV v a b s t).1,(bV v a b s t).2):=rfl;rw [this,hqr,h1]
 ·rw [eG,if_pos h1] at h;exact absurd h h1
structure bn where
 point:Bytes
 time:Int
 pass:Bytes
deriving DecidableEq
def af (x:bn):List AV:=[.str x.point,.int .i64 x.time,.str x.pass]
@[simp] theorem Rq (x:bn):(af x).length=3:=rfl
def mY (v:bg)(m:List Bytes)(a b:aA)(k:Nat):List bn:=(List.range k).map fun i=>⟨m.getD i [],dP v (a.point::(m++[b.point])) a.time b.time (i+1),[]⟩
def ma (v:bg)(a b:aA):List bn:=
 if (eG v a.point b.point a.time b.time).2≠0 then [] else mY v (eG v a.point b.point a.time b.time).1 a b (eG v a.point b.point a.time b.time).1.length
theorem Jm (v:bg)(m:List Bytes)(a b:aA)(k:Nat):mY v m a b (k+1)=mY v m a b k++[⟨m.getD k [],dP v (a.point::(m++[b.point])) a.time b.time (k+1),[]⟩]:=by rw [mY,List.range_succ,List.map_append];rfl
theorem Dk (v:bg)(m:List Bytes)(a b:aA)(k:Nat):(mY v m a b k).length=k:=by simp [mY]
theorem O1 {v:bg} (ok:aU v)(a b:Bytes)(s t:Int):(eG v a b s t).1.length≤16:=by
 by_cases h:(eG v a b s t).2=0
 ·have:=(zf ok h).2.1;simp at this;omega
 ·have:(eG v a b s t).1=[]:=by
   unfold eG at h ⊢;split
   ·rfl
   ·split
    ·rfl
    ·rename_i h1 h2;rw [if_neg h1,if_neg h2] at h;exact absurd rfl h
  rw [this];simp
theorem Dl {v:bg} (ok:aU v)(a b:aA):(ma v a b).length≤16:=by
 unfold ma;split
 ·simp
 ·rw [Dk];exact O1 ok _ _ _ _
def mJ (p:aA):bn:=⟨p.point,p.time,p.id⟩
def dS (v:bg)(l:List aA):Nat→List bn
 | 0=>[]
 | i+1=>match l[i]? with
  | some p=>dS v l i++((match i with | 0=>[] | j+1=>(match l[j]? with | some a=>ma v a p | none=>[]))++[mJ p])
  | none=>dS v l i
theorem II {v:bg} {l:List aA} {p:aA} (h:l[0]? =some p):dS v l 1=[mJ p]:=by simp [dS,h]
theorem IG {v:bg} {l:List aA} {j:Nat} {a p:aA} (ha:l[j]? =some a)(hp:l[j+1]? =some p):dS v l (j+1+1)=dS v l (j+1)++(ma v a p++[mJ p]):=by
 rw [dS,hp];simp only [ha]
theorem uR {v:bg} (ok:aU v) {l:List aA}: ∀i:Nat,(dS v l i).length≤17*i
 | 0=>by simp [dS]
 | i+1=>by
  have ih:=uR ok (l:=l) i;rw [dS];split
  ·rename_i p _
   cases i with
   | zero=>simp [dS]
   | succ j=>
    simp only;split
    ·rename_i a _;have:=Dl ok a p;simp;omega
    ·simp;omega
  ·omega
instance (before:Option aA)(p:aA):Decidable (∃a,before=some a∧p.time≤a.time):=match before with
 | none=>isFalse (by rintro⟨a,e,_⟩;cases e)
 | some a=>if h:p.time≤a.time then isTrue ⟨a,rfl,h⟩ else isFalse (by rintro⟨b,e,h2⟩;cases e;exact h h2)
def gZ (v:bg)(before:Option aA):List aA→Int
 | []=>0
 | p::l=>if aG v.pts p.point=false then 16 else if bE p.time=false then 12 else if (∃a,before=some a∧p.time≤a.time) then 15 else gZ v (some p) l
def fV (v:bg)(l:List aA):Int:=if 1024<l.length then 3 else gZ v none l
def iD (v:bg)(l:List aA):List bn×Int:=if fV v l≠0 then ([],fV v l) else (dS v l l.length,0)
def Cu (l:List aA)(i:Nat):Option aA:=match i with
 | 0=>none
 | j+1=>l[j]?
theorem pz {v:bg} {l:List aA} {i:Nat} {p:aA} (h:l[i]? =some p):gZ v (Cu l i) (l.drop i)=if aG v.pts p.point=false then 16 else if bE p.time=false then 12 else if (∃a,Cu l i=some a∧p.time≤a.time) then 15 else gZ v (Cu l (i+1)) (l.drop (i+1)):=by
 rw [bv h,gZ,show Cu l (i+1)=some p from h]
end Go.Toll
end
section
namespace Go.Toll
open Go Go.Abs
end Go.Toll
end
section
namespace Go.Toll
open Go Go.Abs
section
variable {v : bg} {p : List Bytes} {s t : Int}
theorem low_mono (ok:aU v)(h:(bD v p).2.2=0) {j k:Nat} (h1:1≤j)(h2:j≤k)(h3:k≤p.length):fC v p j≤fC v p k:=by
 obtain⟨b1,b2,_⟩:=qE ok h (k:=k) (by omega) h3;have hl:(p.take k).length=k:=by rw [List.length_take];omega
 obtain⟨_,_,b3⟩:=qE ok b1 (k:=j) h1 (by omega);have e1:fC v (p.take k) j=fC v p j:=by rw [fC,fC,List.take_take,Nat.min_eq_left h2]
 have e2:fC v (p.take k) (p.take k).length=fC v p k:=by rw [fC,fC,List.take_length]
 rw [e1,e2] at b3;exact b3
theorem xD (ok:aU v)(h:(bD v p).2.2=0) {j k:Nat} (h2:j≤k)(h3:k<p.length):dP v p s t j≤dP v p s t k:=by
 have:=low_mono ok h (j:=j+1) (k:=k+1) (by omega) (by omega) (by omega);have:=Nat.div_le_div_right (c:=fC v p p.length) (Nat.mul_le_mul_left (t - s).toNat this);unfold dP;omega
theorem KG (ok:aU v)(h:(bD v p).2.2=0)(hp:p.length≤16):dP v p s t 0=s:=by
 have:=(Fg ok h hp).2.2.2.1;unfold dP;rw [this];simp
theorem NF (ok:aU v)(h:(bD v p).2.2=0)(hp:p.length≤16)(h2:2≤p.length)(hst:s≤t) {k:Nat} (hk:k+1=p.length):dP v p s t k=t:=by
 have:=(Fg ok h hp).2.2.1 h2;unfold dP;rw [hk,Nat.mul_div_cancel _ (by omega)];omega
end
section
variable {v : bg} {l : List aA}
def Ug (x:bn):Bool:=decide (x.pass≠[])
theorem Dm (a p:aA): ∀x∈ma v a p,x.pass=[]:=by
 intro x hx;unfold ma at hx;split at hx
 ·cases hx
 ·rw [mY,List.mem_map] at hx;obtain⟨_,_,rfl⟩:=hx;rfl
theorem Md (ok:aU v)(a p:aA):(ma v a p).Pairwise (fun x y=>x.time≤y.time)∧ ∀x∈ma v a p,a.time≤x.time∧x.time≤p.time:=by
 unfold ma;split
 ·simp
 ·rename_i h;have h0:(eG v a.point p.point a.time p.time).2=0:=by simpa using h
  obtain⟨b1,b2,_,_,b5,_,_⟩:=zf ok h0;generalize (eG v a.point p.point a.time p.time).1=m at*;have hl:(a.point::(m++[p.point])).length=m.length+2:=by simp
  refine⟨?_,fun x hx=> ?_⟩
  ·rw [mY];refine List.pairwise_map.2 (List.Pairwise.imp_of_mem ?_ (List.pairwise_lt_range (n:=m.length)));intro i j hi hj hij;have hj':=List.mem_range.1 hj;exact xD ok b1 (by omega) (by omega)
  ·rw [mY,List.mem_map] at hx;obtain⟨i,hi,rfl⟩:=hx;have hi':=List.mem_range.1 hi;have e1:=KG (s:=a.time) (t:=p.time) ok b1 b2;have e2:=NF (s:=a.time) (t:=p.time) ok b1 b2 (by omega) (by omega) (k:=m.length+1) (by omega);have m1:=xD (s:=a.time) (t:=p.time) ok b1 (j:=0) (k:=i+1) (by omega) (by omega);have m2:=xD (s:=a.time) (t:=p.time) ok b1 (j:=i+1) (k:=m.length+1) (by omega) (by omega);rw [e1] at m1;rw [e2] at m2;exact⟨m1,m2⟩
theorem D9 (h:gZ v none l=0): ∀i:Nat,i≤l.length→gZ v (Cu l i) (l.drop i)=0
 | 0,_=>by simpa [Cu] using h
 | i+1,hi=>by
  have ih:=D9 h i (by omega);obtain⟨p,hp,_⟩:=aN (l:=l) (i:=i) (by omega);rw [pz hp] at ih;split at ih
  ·cases ih
  split at ih
  ·cases ih
  split at ih
  ·cases ih
  exact ih
theorem PW (h:(iD v l).2≠0):(iD v l).1=[]:=by
 unfold iD at h ⊢;split
 ·rfl
 ·rename_i h1;rw [if_neg h1] at h;exact absurd rfl h
end
end Go.Toll
end
end
section
namespace Go.Toll
open Go Go.Abs
structure bQ where
 id:Bytes
 veh:Bytes
 sys:Bytes
 cls:Int
 stops:List bn
def aB (x:bQ):List AV:=[.str x.id,.str x.veh,.str x.sys,.int .i64 x.cls,.ro (x.stops.map af)]
@[simp] theorem Rt (x:bQ):(aB x).length=5:=rfl
def aQ (l:List bn):List Bytes:=(l.filter Ug).map (·.pass)
theorem pE {l:List bn} {i:Nat} {s:bn} (h:l[i]? =some s):aQ (l.take (i+1))=if s.pass=[] then aQ (l.take i) else aQ (l.take i)++[s.pass]:=by
 rw [zM,h];by_cases c:s.pass=[] <;> simp [aQ,Ug,c]
theorem lV (l:List bn):(aQ l).length≤l.length:=by rw [aQ,List.length_map];exact List.length_filter_le _ _
def JF (x:bQ):Bytes:=(aQ x.stops).headD x.id
def p8 (x:bQ):Iv:=match x.stops with
 | []=>⟨0,0⟩
 | a::l=>⟨a.time,IntKind.i64.wrap (((a::l).getLastD a).time+1)⟩
def iM (t:aZ)(s:Bytes):Bytes:=((dQ t s).getD sys0).name
def wF (t:aZ)(s:Bytes):Int:=((dQ t s).getD sys0).most
def fO (t:aZ)(before:Option bn):List bn→Int
 | []=>0
 | s::l=>if kindOf t s.point=0 then 16 else if s.time<0∨68719476736≤s.time then 12 else if before.any (fun a=>decide (s.time<a.time)) then 15 else fO t (some s) l
def vw (l:List bn)(i:Nat):Option bn:=match i with
 | 0=>none
 | j+1=>l[j]?
theorem BO {t:aZ} {l:List bn} {i:Nat} {s:bn} (h:l[i]? =some s):fO t (vw l i) (l.drop i)=if kindOf t s.point=0 then 16 else if s.time<0∨68719476736≤s.time then 12 else if (vw l i).any (fun a=>decide (s.time<a.time)) then 15 else fO t (vw l (i+1)) (l.drop (i+1)):=by
 rw [bv h,fO,show vw l (i+1)=some s from h]
def fQ (l:List bn):List bn:=(l.take (l.length - 1)).drop 1
def kX (t:aZ)(l:List bn)(a b:bn):Bool:=
 if l.length=1 then decide (kindOf t a.point=1)
 else decide (kindOf t a.point=2) && decide (kindOf t b.point=3) && decide (iM t a.point=iM t b.point) && (fQ l).all fun s=>decide (kindOf t s.point=4)
def jF (t:aZ)(x:bQ)(a b:bn):Int:=
 if x.sys≠iM t a.point then 6
 else if kX t x.stops a b=false then 1
 else if 1<x.stops.length∧wF t a.point<b.time - a.time then 12
 else if x.id≠JF x then 6 else 0
def fu (t:aZ)(x:bQ):Int:=
 if x.id=[]∨x.veh=[] then 6
 else if x.cls<1∨9<x.cls then 20
 else match x.stops with
  | []=>1
  | a::l=>if fO t none (a::l)≠0 then fO t none (a::l) else jF t x a ((a::l).getLastD a)
theorem PX {t:aZ} (hz:bN t=0) {s:Bytes} {p:Pt} (h:bS t.net s=some p):iM t s=p.sys:=by
 have hv:aI t=t:=by rw [aI,if_pos hz]
 have hm:p∈t.net.pts:=by
  have hn:=eQ t;rw [hv] at hn;rw [bS,if_pos hn] at h;exact List.mem_of_find?_eq_some h
 have hf:mU t.sys p=true:=by
  unfold bN at hz;split at hz
  ·rename_i h1;exact absurd hz h1
  split at hz
  ·cases hz
  split at hz
  ·rename_i h1;exact absurd hz h1
  split at hz
  ·rename_i h1;exact List.all_eq_true.1 h1 p hm
  ·cases hz
 have hfs: ∀y,cZ t.sys p.sys=some y→y.name=p.sys:=fun y hy=>by
  have:=List.find?_some hy;simpa using this
 unfold iM dQ;rw [hv,h];simp only;split
 ·rename_i h0;rw [h0];rfl
 ·rename_i h0
  cases hy:cZ t.sys p.sys with
  | some y=>exact hfs y hy
  | none=>
   unfold mU at hf;rw [hy] at hf;split at hf
   ·cases hf
   split at hf
   ·cases hf
   ·simp at hf;exact absurd hf h0
end Go.Toll
end
section
namespace Go.Proofs.YtkpioblbeiaefaaGreat
open Go Go.Abs Go.Toll
variable {gl : aM} {h : ae}
theorem En (l:List Bytes): ∀e∈l.map aR,∀y∈e,y.Data:=fun e he y hy=>by
 obtain⟨m,_,rfl⟩:=List.mem_map.1 he;simp [aR] at hy;rw [hy];simp
set_option maxHeartbeats 1000000 in
theorem nJ (x:bQ)(hn:x.stops.length≤1000000):aa Tryz.prog gl 20 [.agg (aB x)] h fun v h'=>v= .ro ((aQ x.stops).map aR)∧h'=h:=by
 refine aa.fresh' (aa.body Tryz.f20 _ mixed Tryz.func20 rfl rfl (by simp [Tryz.ntmps20]) ?_);simp [aB];refine aT.up mixed x.stops.length (fun i fr H=>fr 7= .ro (x.stops.map af)∧fr 8= .int .i64 x.stops.length∧fr 9= .int .i64 i∧(∃g,H=h++g)∧ ∃z,fr 3=z∧Ls 1 h.length H z ((aQ (x.stops.take i)).map aR)) 0 (by omega)
  ⟨by simp,by simp,by simp,⟨_,rfl⟩,.nil,by simp,by simpa [aQ] using Ls.nil⟩ ?_
 rintro i fr H hi ⟨e7,e8,e9,hB,z,e3,hz⟩;have hzf:=hz.rs.fix;have hlH:=cu hB;rcases zN i x.stops.length with hlt | hge
 ·obtain⟨s,hs,hs'⟩:=aN hlt;have ew:=aC (i:=i) (by omega);have hsuc:=pE hs;have hpl:=lV (x.stops.take i);have htl:=List.length_take_le i x.stops;by_cases c:s.pass=[]
  ·rw [if_pos c] at hsuc;simp [af,e3,e7,e8,e9,hlt,hs,hs',c,ew,hzf];exact⟨i+1,by omega,by omega,by omega,aF hB _,by rw [hsuc];exact hz.more _⟩
  ·rw [if_neg c] at hsuc;simp [-ak,-av,-ai,-AV.solid,af,e3,e7,e8,e9,hlt,hs,hs',c,hzf];refine aO (lo:=h.length) (n:=1) (es:=(aQ (x.stops.take i)).map aR) (ys:=[aR s.pass]) (by simpa [aR] using hz.more _) (by simp;omega) (by simp [bF,aR]) (by simp;omega) ?_;intro s1 H1 hs1 hg1 hn1;have hs1f:=hs1.rs.fix;have hB1:=hg1.base h (by omega) (aF hB _);simp [-ak,-av,-ai,-AV.solid,e7,e8,e9,hs1f,ew];exact⟨i+1,by omega,by omega,by omega,hB1,by rw [hsuc];simpa using hs1⟩
 ·obtain rfl:i=x.stops.length:=by omega
  rw [List.take_length] at hz;simp [e3,e7,e8,e9,hzf];exact⟨hB,hz.frz (Nat.le_refl _) (En _)⟩
theorem zh (x:bQ)(hn:x.stops.length≤1000000):aa Tryz.prog gl 22 [.agg (aB x)] h fun v h'=>v= .str (JF x)∧h'=h:=by
 refine aa.data (by simp) (aa.body Tryz.f22 _ mixed Tryz.func22 rfl rfl (by simp [Tryz.ntmps22]) ?_);simp [aB];refine ax.pure _ (fun _=>nJ x hn) ?_;unfold JF
 cases hp:aQ x.stops with
 | nil=>simp
 | cons a r=>
  have h1:(0:Int)<((r.length+1:Nat):Int):=by omega
  have h2:(0:Int)<(r.length:Int)+1:=by omega
  simp [aR,h1,h2]
theorem Es (x:bQ)(hn:x.stops.length≤1000000):aa Tryz.prog gl 24 [.agg (aB x)] h fun v h'=>v= .agg (pX (p8 x))∧h'=h:=by
 refine aa.data (by simp) (aa.body Tryz.f24 _ mixed Tryz.func24 rfl rfl (by simp [Tryz.ntmps24]) ?_)
 cases hp:x.stops with
 | nil=>
  have hsp:p8 x=⟨0,0⟩:=by unfold p8;rw [hp]
  rw [hsp];simp [aB,hp,pX]
 | cons a r=>
  have hlen:x.stops.length=r.length+1:=by rw [hp];rfl
  have h0: ¬((x.stops.length:Int)=0):=by omega
  have hne: ¬x.stops=[]:=by rw [hp];simp
  have hpos:0<x.stops.length:=by omega
  have w1:IntKind.i64.wrap ((x.stops.length:Int) - 1)=((x.stops.length - 1:Nat):Int):=by rw [aD (by omega) (by omega)];omega
  obtain⟨b,hb,hb'⟩:=aN (l:=x.stops) (i:=x.stops.length - 1) (by omega);obtain⟨a',ha,ha'⟩:=aN hpos;have e1:a'=a:=by rw [←ha'];simp [hp]
  subst e1;have hlt:x.stops.length - 1<x.stops.length:=by omega
  have hl:(a'::r).getLastD a'=b:=by
   rw [←hp,List.getLastD_eq_getLast?,List.getLast?_eq_getElem?,hb];rfl
  have hsp:p8 x=⟨a'.time,IntKind.i64.wrap (b.time+1)⟩:=by
   unfold p8;rw [hp];show Iv.mk a'.time (IntKind.i64.wrap (((a'::r).getLastD a').time+1))=_;rw [hl]
  rw [hsp];simp [aB,af,pX,h0,hne,hpos,w1,ha,ha',hb,hb',hlt];decide
def CP:Nat→Option (List (Nat×Nat)):=fun id=>if id=4 then some [(0,10),(2,10),(4,10),(5,10)] else if id=5 then some [(0,11),(3,11),(5,11),(6,11)] else none
set_option maxHeartbeats 4000000 in
theorem KP (t:aZ)(S:List bn)(a b:bn)(ha:S[0]? =some a)(hb:S[S.length - 1]? =some b)(hn:S.length≤1000000)(hp:t.net.pts.length≤1000)(hl:t.net.lks.length≤1000)(hs:t.sys.length≤1000):
  aa Tryz.prog gl 48 [.agg (ay t),.ro (S.map af)] h fun v h'=>v= .bool (kX t S a b)∧h'=h:=by
 refine aa.data (.bool _) (aa.bodyL CP Tryz.f48 _ mixed Tryz.func48 rfl rfl (by simp [Tryz.ntmps48]) ?_);have hpos:=aK ha;have hlt:S.length - 1<S.length:=by omega
 have ha':=(zA.1 ha).2;have hb':=(zA.1 hb).2;have w1:IntKind.i64.wrap ((S.length:Int) - 1)=((S.length - 1:Nat):Int):=by rw [aD (by omega) (by omega)];omega
 have kd:=fun (H:ae) (s:Bytes)=>iN (gl:=gl) (h:=H) t s hp hl hs;have sy:=fun (H:ae) (s:Bytes)=>gz (gl:=gl) (h:=H) t s hp hl hs;by_cases hr:S.length=1
 ·have hz:((S.length - 1:Nat):Int)=0:=by omega
  have hz':S.length - 1=0:=by omega
  simp [CP,af,w1,hz,hz',hpos,ha,ha'];refine⟨by decide,?_⟩;refine ax.pure _ (fun _=>kd _ a.point) ?_;simp [kX,hr];rfl
 ·have hz: ¬((S.length - 1:Nat):Int)=0:=by omega
  have hz': ¬S.length - 1=0:=by omega
  have hsh:kX t S a b=(decide (kindOf t a.point=2) && decide (kindOf t b.point=3) && decide (iM t a.point=iM t b.point) && (fQ S).all fun s=>decide (kindOf t s.point=4)):=by
   unfold kX;rw [if_neg hr]
  have e1:iM t a.point=((dQ t a.point).getD sys0).name:=rfl;have e2:iM t b.point=((dQ t b.point).getD sys0).name:=rfl;have sya:=fun (H:ae)=>sy H a.point;have syb:=fun (H:ae)=>sy H b.point;generalize (dQ t a.point).getD sys0=ya at*;generalize (dQ t a.point).isSome=za at*;generalize (dQ t b.point).getD sys0=yb at*;generalize (dQ t b.point).isSome=zb at*;clear sy;simp [CP,af,w1,hz,hz',hpos,hlt,ha,ha',hb,hb'];refine⟨by decide,?_⟩;refine ax.pure _ (fun _=>sya _) ?_;simp [CP,af,w1,hz,hz',hpos,hlt,ha,ha',hb,hb'];refine⟨ax.pure _ (fun _=>sya _) (by simp),?_⟩;refine⟨by decide,?_⟩;refine ax.pure _ (fun _=>syb _) ?_;simp [CP,af,w1,hz,hz',hpos,hlt,ha,ha',hb,hb'];refine⟨ax.pure _ (fun _=>syb _) (by simp),?_⟩;refine⟨by decide,?_⟩;refine ax.pure _ (fun _=>kd _ a.point) ?_;by_cases k1:kindOf t a.point=2
  case neg=>
   simp [CP,af,w1,hz,hz',hpos,hlt,ha,ha',hb,hb',k1];refine ax.pure (.int .i64 0) (fun c=>by simp [k1] at c) ?_;simp [hsh,k1]
  simp [CP,af,w1,hz,hz',hpos,hlt,ha,ha',hb,hb',k1];refine ax.pure _ (fun _=>kd _ b.point) ?_;by_cases k2:kindOf t b.point=3
  case neg=>
   simp [k2];simp [hsh,k2]
  by_cases k3:ya.name=yb.name
  case neg=>
   simp [k2,k3];simp [hsh,k1,k2,e1,e2,k3]
  simp [k2,k3];have hil:(fQ S).length=S.length - 1 - 1:=by simp [fQ]
  have hin:((S.map af).take (S.length - 1)).drop 1=(fQ S).map af:=by simp [fQ]
  have hsh2:kX t S a b=(fQ S).all fun s=>decide (kindOf t s.point=4):=by rw [hsh,e1,e2];simp [k1,k2,k3]
  refine⟨by omega,?_⟩;refine aT.upL CP mixed (fQ S).length (fun i fr H=>fr 2= .ptr h.length 0 0∧fr 69= .ro ((fQ S).map af)∧fr 70= .int .i64 (fQ S).length∧fr 71= .int .i64 i∧kX t S a b=((fQ S).drop i).all (fun s=>decide (kindOf t s.point=4))∧H[h.length]? =some (.cells 3 [ay t])∧ ∃g,H=h++g) 0 (by omega)
   ⟨by simp,by simp [←hin],by simp [hil],by simp,by simpa using hsh2,by simp,_,rfl⟩ ?_
  rintro i fr H hi ⟨f2,f69,f70,f71,hf,hT,hB⟩;have hT3:=at3 hT;simp only [ay] at hT3;generalize fQ S=L at*;have hL:L.length≤1000000:=by omega
  rcases zN i L.length with hlt2 | hge
  ·obtain⟨s,hss,hss'⟩:=aN hlt2;have ew:=aC (i:=i) (by omega);rw [bv hss,List.all_cons] at hf;have hH:=aK hT;have hT3':=at3 (aL hT [.cells 3 [af s]]);simp only [ay,af] at hT3';simp [CP,af,f2,f69,f70,f71,hlt2,hss,hss',hT3,hT3'];refine ax.pure _ (fun _=>kd _ s.point) ?_;by_cases k4:kindOf t s.point=4
   ·simp [k4,f2,f69,f70,f71,ew];refine⟨i+1,by omega,by omega,by omega,by rw [hf];simp [k4],?_,aF hB _⟩;simpa [af] using aL hT [.cells 3 [af s]]
   ·simp [k4,f2,f69,f70,f71,ew];exact⟨by rw [hf];simp [k4],aF hB _⟩
  ·rw [zH hge] at hf;have hge': ¬(i:Int)<L.length:=by omega
   simp [CP,f2,f69,f70,f71,Nat.not_lt.2 hge,hge',hf];exact hB
theorem uQ {t:aZ}: ∀ {l:List bn} {b:Option bn},fO t b l=0→ ∀s∈l,kindOf t s.point≠0∧0≤s.time∧s.time<68719476736
 | [],_,_,s,hs=>by cases hs
 | x::l,b,h,s,hs=>by
  rw [fO] at h;split at h
  ·cases h
  split at h
  ·cases h
  split at h
  ·cases h
  rcases List.mem_cons.1 hs with rfl | hs
  ·rename_i h1 h2 _;exact⟨h1,by omega,by omega⟩
  ·exact uQ h s hs
theorem r16:List.range 16=[0,1,2,3,4,5,6,7,8,9,10,11,12,13,14,15]:=rfl
def jl:Nat→Option sZ:=fun id=>if id=17 then some (.perm [([0,1,2,3,4,5,6,7,8,9,10,11,12,13,14,15],[(1,13),(1,14),(2,13),(2,14),(3,13),(3,14),(5,13),(5,14),(5,15),(7,13),(7,14),(7,15),(8,13),(8,14),(8,15),(10,13),(10,14),(10,15),(11,13),(11,14),(11,15)]),([0,1,2,3,4,5,6,7,8,9,10,11,13,12,14,15],[(1,13),(1,14),(2,13),(2,14),(3,13),(3,14),(5,13),(5,14),(5,15),(7,13),(7,14),(7,15),(8,13),(8,14),(8,15),(10,13),(10,14),(10,15),(11,13),(11,14),(11,15)])]) else none
set_option maxHeartbeats 8000000 in
theorem uT (t:aZ)(x:bQ)(hn:x.stops.length≤1000000)(hp:t.net.pts.length≤1000)(hl:t.net.lks.length≤1000)(hs:t.sys.length≤1000):
  aa Tryz.prog gl 18 [.agg (ay t),.agg (aB x)] h fun v h'=>v= .int .i64 (fu t x)∧h'=h:=by
 refine aa.data (by simp) (aa.bodyN jl Tryz.f18 _ mixed Tryz.func18 rfl rfl (by simp [Tryz.ntmps18]) ?_);have kd:=fun (H:ae) (s:Bytes)=>iN (gl:=gl) (h:=H) t s hp hl hs;by_cases c1:x.id=[]
 ·simp [jl,-aY,aB,fu,c1]
 by_cases c2:x.veh=[]
 ·simp [jl,-aY,aB,fu,c1,c2]
 have hE0:fu t x=if x.cls<1∨9<x.cls then 20 else match x.stops with
  | []=>1
  | a::l=>if fO t none (a::l)≠0 then fO t none (a::l) else jF t x a ((a::l).getLastD a):=by
  unfold fu;rw [if_neg (by intro c;rcases c with c | c;exact c1 c;exact c2 c)];all_goals rfl
 by_cases c3:x.cls<1
 ·rw [hE0,if_pos (.inl c3)];simp [jl,-aY,aB,c1,c2,c3]
 by_cases c4:9<x.cls
 ·rw [hE0,if_pos (.inr c4)];simp [jl,-aY,aB,c1,c2,c3,c4]
 rw [if_neg (by omega)] at hE0;by_cases c5:x.stops=[]
 ·rw [hE0,c5];simp [jl,-aY,aB,c1,c2,c3,c4,c5]
 have hpos:=List.length_pos_iff.2 c5;obtain⟨a,ha,ha'⟩:=aN hpos;obtain⟨b,hb,hb'⟩:=aN (l:=x.stops) (i:=x.stops.length - 1) (by omega);have hE:fu t x=if fO t none x.stops≠0 then fO t none x.stops else jF t x a b:=by
  rw [hE0]
  cases hx:x.stops with
  | nil=>exact absurd hx c5
  | cons a' l=>
   have e1:a'=a:=by rw [←ha'];simp [hx]
   have e2:(a'::l).getLastD a'=b:=by rw [←hx,List.getLastD_eq_getLast?,List.getLast?_eq_getElem?,hb];rfl
   subst e1;show (if _ then _ else jF t x a' ((a'::l).getLastD a'))=_;rw [e2]
 have h0: ¬((x.stops.length:Int)=0):=by omega
 have hlt:x.stops.length - 1<x.stops.length:=by omega
 have w1:IntKind.i64.wrap ((x.stops.length:Int) - 1)=((x.stops.length - 1:Nat):Int):=by rw [aD (by omega) (by omega)];omega
 rw [hE];clear hE0 hE;simp [jl,-aY,aB,c1,c2,c3,c4,c5,h0];refine aT.upN jl mixed x.stops.length (fun i fr H=>fr 2= .ptr h.length 0 0∧fr 3= .ptr (h.length+1) 0 0∧fr 35= .ro (x.stops.map af)∧fr 36= .int .i64 x.stops.length∧fr 37= .int .i64 i∧fO t none x.stops=fO t (vw x.stops i) (x.stops.drop i)∧H[h.length]? =some (.cells 3 [ay t])∧H[h.length+1]? =some (.cells 5 [aB x])∧ ∃g,H=h++g) 0 (by omega)
  ⟨by simp,by simp,by simp,by simp,by simp,by simp [vw],by simp,by simp [aB],_,rfl⟩ ?_
 rintro i fr H hi ⟨f2,f3,f35,f36,f37,hf,hT,hX,hB⟩;rw [hf];have hT3:=at3 hT;have hX3:=at3 hX;simp only [ay] at hT3;simp only [aB] at hX3;rcases zN i x.stops.length with hlt2 | hge
 ·obtain⟨s,hss,hss'⟩:=aN hlt2;have ew:=aC (i:=i) (by omega);rw [BO hss] at hf ⊢;have hT3':=at3 (aL hT [.cells 3 [af s]]);have hX3':=at3 (aL hX [.cells 3 [af s]]);simp only [ay,af] at hT3';simp only [aB,af] at hX3';simp [jl,-aY,af,f2,f3,f35,f36,f37,hlt2,hss,hss',hT3'];refine ax.pure _ (fun _=>kd _ s.point) ?_;by_cases q1:kindOf t s.point=0
  ·simp [jl,-aY,q1,f2,f3];exact aF hB _
  by_cases q2:s.time<0
  ·simp [jl,-aY,q1,q2,f2,f3];exact aF hB _
  by_cases q3:68719476736≤s.time
  ·simp [jl,-aY,q1,q2,q3,f2,f3];exact aF hB _
  cases i with
  | zero=>
   have hbf:vw x.stops 0=none:=rfl;simp only [hbf,Option.any_none] at hf ⊢;simp [jl,q1,q2,q3,f2,f3,f35,f36,f37];refine⟨by decide,1,by omega,by omega,by decide,by simp,by simpa [af] using aL hT [.cells 3 [af s]],by simpa [af,aB] using aL hX [.cells 3 [af s]],aF hB _⟩
  | succ j=>
   obtain⟨y,hy,hy'⟩:=aN (l:=x.stops) (i:=j) (by omega);have hj:j<x.stops.length:=by omega
   have hbf:vw x.stops (j+1)=some y:=hy;simp only [hbf,Option.any_some] at hf ⊢;have w2:IntKind.i64.wrap (((j+1:Nat):Int) - 1)=(j:Int):=by rw [aD (by omega) (by omega)];omega
   have hjp:(0:Int)<((j+1:Nat):Int):=by omega
   by_cases q4:s.time<y.time
   ·simp [-Int.natCast_add,jl,af,q1,q2,q3,q4,f2,f3,f35,f36,f37,hy,hy',hj,w2,hjp,hX3',ew];exact⟨by decide,aF hB _⟩
   ·simp [-Int.natCast_add,jl,af,q1,q2,q3,q4,f2,f3,f35,f36,f37,hy,hy',hj,w2,hjp,hX3',ew];refine⟨by decide,j+1+1,by omega,by omega,rfl,rfl,by simpa [af] using aL hT [.cells 3 [af s]],by simpa [af,aB] using aL hX [.cells 3 [af s]],aF hB _⟩
 ·obtain rfl:i=x.stops.length:=by omega
  have hz:fO t none x.stops=0:=by rw [hf,List.drop_length];rfl
  rw [List.drop_length];have hz2:fO t (vw x.stops x.stops.length) []=0:=rfl;rw [hz2,if_pos (rfl:(0:Int)=0)];simp [jl,-aY,f2,f3,f35,f36,f37];rw [aY];simp only [jl,if_true];refine⟨by decide,?_⟩;generalize hK:gF _ _ Exit.normal=K;have key: ∀fr' h' k7 k8,fr' 2= .ptr h.length 0 0→fr' 3= .ptr (h.length+1) 0 0→fr' 7= .ptr k7 0 0→fr' 8= .ptr k8 0 0→h'[h.length]? =some (.cells 3 [ay t])→h'[h.length+1]? =some (.cells 5 [aB x])→
    h'[k7]? =some (.cells 3 [af a])→h'[k8]? =some (.cells 3 [af b])→(∃g,h'=h++g)→K fr' h':=by
   intro fr' h' k7 k8 g2 g3 g7 g8 hT hX h7 h8 hB;rw [←hK];have hT3:=at3 hT;have hX3:=at3 hX;have h73:=at3 h7;have h83:=at3 h8;simp only [ay] at hT3;simp only [aB] at hX3;simp only [af] at h73 h83;have e1:iM t a.point=((dQ t a.point).getD sys0).name:=rfl;have e2:wF t a.point=((dQ t a.point).getD sys0).most:=rfl;have sya:=fun (H:ae)=>gz (gl:=gl) (h:=H) t a.point hp hl hs;have shp:=fun (H:ae)=>KP (gl:=gl) (h:=H) t x.stops a b ha hb hn hp hl hs;have tid:=fun (H:ae)=>zh (gl:=gl) (h:=H) x hn;simp [jl,-aY,g2,g3,g7,g8,hT3,h73];refine ax.pure _ (fun _=>sya _) ?_;unfold jF;rw [e1,e2];generalize (dQ t a.point).getD sys0=ya at*;generalize (dQ t a.point).isSome=za at*;have hTq:=at3 (aL hT [.cells 3 [dC ya]]);have hXq:=at3 (aL hX [.cells 3 [dC ya]]);have h7q:=at3 (aL h7 [.cells 3 [dC ya]]);have h8q:=at3 (aL h8 [.cells 3 [dC ya]]);simp only [ay,dC] at hTq;simp only [aB,dC] at hXq;simp only [af,dC] at h7q h8q;by_cases p1:x.sys=ya.name
   case neg=>
    simp [jl,-aY,g2,g3,g7,g8,hXq,p1];exact aF hB _
   simp [jl,-aY,g2,g3,g7,g8,hXq,hTq,p1];refine ax.pure _ (fun _=>shp _) ?_
   cases p2:kX t x.stops a b with
   | false=>
    simp [jl,-aY,g2,g3,g7,g8];exact aF hB _
   | true=>
    have ra:=uQ hz a (zF ha);have rb:=uQ hz b (zF hb);have wd:IntKind.i64.wrap (b.time - a.time)=b.time - a.time:=aD (by omega) (by omega);by_cases c6:1<x.stops.length
    ·have c6':(1:Int)<x.stops.length:=by omega
     by_cases c7:ya.most<b.time - a.time
     ·simp [jl,-aY,g2,g3,g7,g8,hXq,hTq,h7q,h8q,wd,c6,c6',c7];exact aF hB _
     ·simp [jl,-aY,g2,g3,g7,g8,hXq,hTq,h7q,h8q,wd,c6,c6',c7];simp [jl,g2,g3,g7,g8,hXq,hTq,h7q,h8q];refine⟨by decide,?_⟩;refine ax.pure _ (fun _=>tid _) ?_;by_cases c8:x.id=JF x
      ·simp [jl,←c8,g2,g3];exact aF hB _
      ·simp [jl,c8,g2,g3];exact aF hB _
    ·have c6': ¬(1:Int)<x.stops.length:=by omega
     simp [jl,-aY,g2,g3,g7,g8,hXq,hTq,h7q,h8q,wd,c6,c6'];simp [jl,g2,g3,g7,g8,hXq,hTq,h7q,h8q];refine⟨by decide,?_⟩;refine ax.pure _ (fun _=>tid _) ?_;by_cases c8:x.id=JF x
     ·simp [jl,←c8,g2,g3];exact aF hB _
     ·simp [jl,c8,g2,g3];exact aF hB _
  rw [jC,jC];have hH:=hX3.2.1;refine⟨⟨by decide+kernel,?_⟩,⟨by decide+kernel,?_⟩,trivial⟩
  ·simp [bG,mG,rZ,eF,bX,r16,af,f2,f3,hX3,hpos,ha,ha',hb,hb',hlt,w1];exact key _ _ H.length (H.length+1) (by simp [f2]) (by simp [f3]) (by simp) (by simp) (aL hT _) (aL hX _) (by simp [af]) (by simp [af]) (aF hB _)
  ·simp [bG,mG,rZ,eF,bX,r16,af,f2,f3,hX3,hpos,ha,ha',hb,hb',hlt,w1];exact key _ _ (H.length+1) H.length (by simp [f2]) (by simp [f3]) (by simp) (by simp) (aL hT _) (aL hX _) (by simp [af]) (by simp [af]) (aF hB _)
end Go.Proofs.YtkpioblbeiaefaaGreat
end
section
namespace Go.Toll
open Go Go.Abs
def IC:Sh:=VN .str LF
def FR:Sh:= .st (.cons .str (.cons .str (.cons LF (.cons .str (.cons .str (.cons LF (.cons LF (.cons (.sl IC) .none))))))))
def aA.dat (p:aA):Prop:= ∀e∈p.sources,∀v∈e,v.Data
structure jk where
 dev:Bytes
 seq:Int
deriving DecidableEq
def intOf:AV→Int
 | .int _ n=>n
 | _=>0
def bL (s:jk):List AV:=[.str s.dev,.int .i64 s.seq]
def Jr (e:List AV):jk:=⟨strOf (e.getD 0 .junk),intOf (e.getD 1 .junk)⟩
@[simp] theorem SE (s:jk):Jr (bL s)=s:=rfl
def aA.srcs (p:aA):List jk:=p.sources.map Jr
structure aA.Ok (p:aA):Prop where
 src:p.sources=p.srcs.map bL
 id:iC p.id
 point:iC p.point
 tag:iC p.tag
 plate:iC p.plate
 dev: ∀s∈p.srcs,iC s.dev
 n:p.sources.length≤maxLen
theorem aA.Ok.dat {p:aA} (h:p.Ok):p.dat:=by
 intro e he v hv;rw [h.src] at he;obtain⟨s,_,rfl⟩:=List.mem_map.1 he;simp [bL] at hv;rcases hv with rfl | rfl <;> simp
theorem O9 {es:List AV} (h:FR.ok es): ∃p:aA,es=aj p∧p.Ok:=by
 obtain⟨a,_,rfl,h1,b,_,rfl,h2,c,_,rfl,h3,d,_,rfl,h4,e,_,rfl,h5,f,_,rfl,h6,g,_,rfl,h7,i,_,rfl,h8,rfl⟩:=h;obtain⟨a,rfl,ha⟩:=uG h1;obtain⟨b,rfl,hb⟩:=uG h2;obtain⟨c,rfl,_⟩:=CU h3;obtain⟨d,rfl,hd⟩:=uG h4;obtain⟨e,rfl,he⟩:=uG h5;obtain⟨f,rfl,_⟩:=CU h6;obtain⟨g,rfl,_⟩:=CU h7;obtain⟨l,rfl,hn,hl⟩:=M0 (enc:=bL) (Q:=fun s=>iC s.dev) h8 fun es h=>by
  obtain⟨_,_,rfl,g1,g2⟩:=JX h;obtain⟨x,rfl,hx⟩:=uG g1;obtain⟨y,rfl,_⟩:=CU g2;exact⟨⟨x,y⟩,rfl,hx⟩
 have e1:(aA.mk a b c d e f g (l.map bL)).srcs=l:=by
  show (l.map bL).map Jr=l;rw [List.map_map];exact List.map_id'' (fun s=>rfl) l
 exact⟨⟨a,b,c,d,e,f,g,l.map bL⟩,rfl,⟨by rw [e1],ha,hb,hd,he,by rw [e1];exact hl,by simpa using hn⟩⟩
def iw (a b:Int):Int:=if a<b then -1 else if b<a then 1 else 0
def jH (a b:Bytes):Int:=if a=b then 0 else if Op.bytesLess a b=true then -1 else 1
def dU (a b:jk):Int:=if a.dev=b.dev then iw a.seq b.seq else jH a.dev b.dev
def dz:List jk→List jk→Int
 | a::r,b::q=>if dU a b≠0 then dU a b else dz r q
 | r,q=>iw r.length q.length
def df:List Int→Int
 | []=>0
 | a::r=>if a≠0 then a else df r
def cmpL (a b:aA):List Int:=[iw a.time b.time,jH a.point b.point,jH a.id b.id,jH a.tag b.tag,jH a.plate b.plate,iw a.cls b.cls,iw a.score b.score,dz a.srcs b.srcs]
def Gy (a b:aA):Int:=df (cmpL a b)
theorem Dr (a:Bytes):jH a a=0:=by rw [jH,if_pos rfl]
theorem Dt {a b:Bytes} (h:jH a b=0):a=b:=by
 unfold jH at h;split at h
 ·assumption
 split at h <;> cases h
theorem Ot (a b c:Nat):iw ((c+a:Nat):Int) ((c+b:Nat):Int)=iw a b:=by
 have h1:((c+a:Nat):Int)<((c+b:Nat):Int)↔(a:Int)<b:=by omega
 have h2:((c+b:Nat):Int)<((c+a:Nat):Int)↔(b:Int)<a:=by omega
 unfold iw;simp only [h1,h2]
end Go.Toll
end
