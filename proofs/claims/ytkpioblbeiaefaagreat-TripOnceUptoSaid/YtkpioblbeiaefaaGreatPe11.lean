/- Part 11 of the lemmas below the statements of this seat: TollGraph. -/
import Derived.Test.YtkpioblbeiaefaaGreatPe10
set_option linter.unusedSectionVars false
set_option linter.unusedVariables false
set_option linter.unusedSimpArgs false
set_option linter.unnecessarySimpa false
set_option maxRecDepth 100000
section
namespace Go.Toll
open Go Go.Abs
structure aU (v:bg):Prop where
 plen:v.pts.length≤64
 llen:v.lks.length≤128
 nd:(v.pts.map (·.name)).Nodup
 short: ∀p∈v.pts,dZ p.name=true
 ends: ∀x∈v.lks,aG v.pts x.src=true∧aG v.pts x.dst=true∧x.src≠x.dst
 one:v.lks.Pairwise fun x y=> ¬(x.src=y.src∧x.dst=y.dst)
 rng: ∀x∈v.lks,1≤x.min∧x.min≤x.max∧x.max≤2147483648
theorem DI (l:List Pt)(s:Bytes):aG l s=true↔s∈l.map (·.name):=by
 rw [aG,List.any_eq_true,List.mem_map];constructor
 ·rintro⟨p,hp,h⟩;exact⟨p,hp,of_decide_eq_true h⟩
 ·rintro⟨p,hp,rfl⟩;exact⟨p,hp,by simp⟩
theorem vM (l m:List Pt)(s:Bytes):aG (l++m) s=(aG l s || aG m s):=by simp [aG]
theorem Ec: ∀ {l before:List Pt},fE before l=0→(∀p∈l,dZ p.name=true∧aG before p.name=false)∧(l.map (·.name)).Nodup
 | [],_,_=>by simp
 | p::l,before,h=>by
  rw [fE] at h;split at h
  ·cases h
  rename_i h1;split at h
  ·cases h
  rename_i h2;split at h
  ·cases h
  split at h
  ·cases h
  obtain⟨i1,i2⟩:=Ec h;refine⟨fun q hq=> ?_,?_⟩
  ·rcases List.mem_cons.1 hq with rfl | hq
   ·exact⟨by simpa using h1,by simpa using h2⟩
   ·obtain⟨j1,j2⟩:=i1 q hq;rw [vM,Bool.or_eq_false_iff] at j2;exact⟨j1,j2.1⟩
  ·rw [List.map_cons,List.nodup_cons];refine⟨fun hm=> ?_,i2⟩;obtain⟨q,hq,e⟩:=List.mem_map.1 hm;have j2:=(i1 q hq).2;rw [vM,Bool.or_eq_false_iff] at j2;simp [aG,e] at j2
theorem AP {pts:List Pt}: ∀ {l before:List Lk},iA pts before l=0→
  (∀x∈l,(aG pts x.src=true∧aG pts x.dst=true∧x.src≠x.dst)∧(1≤x.min∧x.min≤x.max∧x.max≤2147483648)∧ ∀y∈before,¬(y.src=x.src∧y.dst=x.dst))∧l.Pairwise fun x y=> ¬(x.src=y.src∧x.dst=y.dst)
 | [],_,_=>by simp
 | x::l,before,h=>by
  rw [iA] at h;split at h
  ·cases h
  rename_i h1;split at h
  ·cases h
  rename_i h2;split at h
  ·cases h
  rename_i h3;obtain⟨i1,i2⟩:=AP h;refine⟨fun y hy=> ?_,List.pairwise_cons.2 ⟨fun y hy=>(i1 y hy).2.2 x (by simp),i2⟩⟩;rcases List.mem_cons.1 hy with rfl | hy
  ·refine⟨⟨?_,?_,?_⟩,by omega,fun z hz hc=>h2 ?_⟩
   ·cases e:aG pts y.src
    ·exact absurd (.inl e) h1
    ·rfl
   ·cases e:aG pts y.dst
    ·exact absurd (.inr (.inl e)) h1
    ·rfl
   ·exact fun e=>h1 (.inr (.inr e))
   ·rw [List.any_eq_true];exact⟨z,hz,by simp [hc]⟩
  ·obtain⟨j1,j2,j3⟩:=i1 y hy;exact⟨j1,j2,fun z hz=>j3 z (by simp [hz])⟩
theorem si {n:bg} (h:dR n=0):aU n:=by
 have hl:=uF h;unfold dR at h;split at h
 ·cases h
 split at h
 ·rename_i h2;exact absurd h h2
 rename_i h2;have h2:fE [] n.pts=0:=by simpa using h2
 obtain⟨p1,p2⟩:=Ec h2;obtain⟨l1,l2⟩:=AP h;exact⟨hl.1,hl.2,p2,fun p hp=>(p1 p hp).1,fun x hx=>(l1 x hx).1,l2,fun x hx=>(l1 x hx).2.1⟩
theorem xE (n:bg):aU (bW n):=by
 unfold bW;split
 ·rename_i h;exact si h
 ·exact⟨by simp,by simp,by simp,by simp,by simp,by simp,by simp⟩
def bu (v:bg):List Bytes:=jD (v.pts.map (·.name))
def jJ (v:bg)(s:Bytes):List Lk:=(v.lks.filter fun x=>decide (x.src=s)).mergeSort fun x y=>decide (x.dst≤y.dst)
def dM (v:bg)(s:Bytes):List Bytes:=(jJ v s).map (·.dst)
def lkOf (v:bg)(a b:Bytes):Option Lk:=v.lks.find? fun x=>decide (x.src=a) && decide (x.dst=b)
def dJ:Bytes→List Bytes→Bytes
 | a,[]=>a
 | _,b::l=>dJ b l
def wk (v:bg):Bytes→List Bytes→Option (Int×Int)
 | _,[]=>some (0,0)
 | a,b::l=>match lkOf v a b,wk v b l with
  | some x,some s=>some (x.min+s.1,x.max+s.2)
  | _,_=>none
section
variable {v : bg}
theorem rC (v:bg)(s:Bytes):s∈bu v↔aG v.pts s=true:=by rw [bu,Em,DI]
theorem kJ (v:bg):(bu v).length=v.pts.length:=by rw [bu,El,List.length_map]
theorem aU.nodup (ok:aU v):(bu v).Nodup:=yn ok.nd
theorem Pp (v:bg):vo (bu v):=Nq _
theorem gW (v:bg)(s:Bytes)(x:Lk):x∈jJ v s↔x∈v.lks∧x.src=s:=by
 rw [jJ,(List.mergeSort_perm _ _).mem_iff,List.mem_filter];simp
theorem MM (v:bg)(s:Bytes):(jJ v s).length≤v.lks.length:=by
 rw [jJ,List.length_mergeSort];exact List.length_filter_le _ _
theorem DV (v:bg)(s:Bytes):(jJ v s).Pairwise fun x y=>decide (x.dst≤y.dst)=true:=
 List.pairwise_mergeSort (fun a b c=>DU a.dst b.dst c.dst) (fun a b=>DT a.dst b.dst) _
theorem aU.uniq (ok:aU v) {x y:Lk} (hx:x∈v.lks)(hy:y∈v.lks)(h1:x.src=y.src)(h2:x.dst=y.dst):x=y:=by
 have: ∀l:List Lk,l.Pairwise (fun x y=> ¬(x.src=y.src∧x.dst=y.dst))→x∈l→y∈l→x=y:=by
  intro l
  induction l with
  | nil=>intro _ h;cases h
  | cons z l ih=>
   intro hp hx hy;obtain⟨p1,p2⟩:=List.pairwise_cons.1 hp;rcases List.mem_cons.1 hx with ex | hx' <;> rcases List.mem_cons.1 hy with ey | hy'
   ·rw [ex,ey]
   ·rw [ex] at h1 h2;exact absurd ⟨h1,h2⟩ (p1 y hy')
   ·rw [ey] at h1 h2;exact absurd ⟨h1.symm,h2.symm⟩ (p1 x hx')
   ·exact ih p2 hx' hy'
 exact this _ ok.one hx hy
theorem aU.dstnd (ok:aU v)(s:Bytes):((jJ v s).map (·.dst)).Nodup:=by
 have h:((v.lks.filter fun x=>decide (x.src=s)).map (·.dst)).Nodup:=by
  refine List.pairwise_map.2 ?_;have h1:=ok.one.sublist (List.filter_sublist (p:=fun x=>decide (x.src=s)) (l:=v.lks));refine List.Pairwise.imp_of_mem ?_ h1;intro x y hx hy hne e;exact hne ⟨by rw [of_decide_eq_true (List.mem_filter.1 hx).2,of_decide_eq_true (List.mem_filter.1 hy).2],e⟩
 exact (((List.mergeSort_perm _ _).map _).nodup_iff).2 h
theorem MW (v:bg)(s:Bytes):vo (dM v s):=List.pairwise_map.2 (DV v s)
theorem aU.nextnd (ok:aU v)(s:Bytes):(dM v s).Nodup:=ok.dstnd s
theorem om (v:bg)(s t:Bytes):t∈dM v s↔ ∃x∈v.lks,x.src=s∧x.dst=t:=by
 rw [dM,List.mem_map];constructor
 ·rintro⟨x,hx,rfl⟩;exact⟨x,((gW v s x).1 hx).1,((gW v s x).1 hx).2,rfl⟩
 ·rintro⟨x,hx,h1,h2⟩;exact⟨x,(gW v s x).2 ⟨hx,h1⟩,h2⟩
theorem fB {a b:Bytes} {x:Lk} (h:lkOf v a b=some x):x∈v.lks∧x.src=a∧x.dst=b:=by
 have h1:=List.mem_of_find?_eq_some h;have h2:=List.find?_some h;simp at h2;exact⟨h1,h2⟩
theorem aU.lkOf (ok:aU v) {x:Lk} (hx:x∈v.lks):lkOf v x.src x.dst=some x:=by
 cases e:Go.Toll.lkOf v x.src x.dst with
 | none=>
  have:=List.find?_eq_none.1 e x hx;simp at this
 | some y=>
  obtain⟨h1,h2,h3⟩:=fB e;rw [ok.uniq h1 hx h2 h3]
theorem xg (ok:aU v)(a b:Bytes):b∈dM v a↔ ∃x,lkOf v a b=some x:=by
 rw [om];constructor
 ·rintro⟨x,hx,rfl,rfl⟩;exact⟨x,ok.lkOf hx⟩
 ·rintro⟨x,h⟩;obtain⟨h1,h2,h3⟩:=fB h;exact⟨x,h1,h2,h3⟩
@[simp] theorem Qb (v:bg) (a:Bytes):wk v a []=some (0,0):=rfl
theorem dN {a b:Bytes} {l:List Bytes} {s:Int×Int}:wk v a (b::l)=some s↔ ∃x t,lkOf v a b=some x∧wk v b l=some t∧s=(x.min+t.1,x.max+t.2):=by
 rw [wk]
 cases e1:lkOf v a b with
 | none=>simp
 | some x=>
  cases e2:wk v b l with
  | none=>simp
  | some t=>
   simp only [Option.some.injEq];constructor
   ·rintro rfl;exact⟨x,t,rfl,rfl,rfl⟩
   ·rintro⟨_,_,rfl,rfl,h⟩;exact h.symm
theorem rV (a:Bytes): ∀(x y:List Bytes),dJ a (x++y)=dJ (dJ a x) y
 | [],y=>rfl
 | b::x,y=>rV b x y
theorem eO (a:Bytes)(x:List Bytes)(b:Bytes):dJ a (x++[b])=b:=by rw [rV];rfl
theorem kY {a:Bytes}: ∀ {x y:List Bytes} {s:Int×Int},wk v a (x++y)=some s↔ ∃t u,wk v a x=some t∧wk v (dJ a x) y=some u∧s=(t.1+u.1,t.2+u.2)
 | [],y,s=>by
  simp only [List.nil_append,Qb,dJ,Option.some.injEq];constructor
  ·intro h;exact⟨(0,0),s,rfl,h,by simp⟩
  ·rintro⟨t,u,rfl,h,rfl⟩;simpa using h
 | b::x,y,s=>by
  rw [List.cons_append,dN];constructor
  ·rintro⟨z,t,h1,h2,rfl⟩;obtain⟨t1,u,h3,h4,rfl⟩:=kY.1 h2;exact⟨(z.min+t1.1,z.max+t1.2),u,dN.2 ⟨z,t1,h1,h3,rfl⟩,h4,by simp [Int.add_assoc]⟩
  ·rintro⟨t,u,h1,h2,rfl⟩;obtain⟨z,t1,h3,h4,rfl⟩:=dN.1 h1;exact⟨z,(t1.1+u.1,t1.2+u.2),h3,kY.2 ⟨t1,u,h4,h2,rfl⟩,by simp [Int.add_assoc]⟩
theorem uW (ok:aU v) {a:Bytes}: ∀ {l:List Bytes} {s:Int×Int},wk v a l=some s→(l.length:Int)≤s.1∧s.1≤s.2∧s.2≤l.length*2147483648
 | [],s,h=>by
  obtain rfl:=Option.some.inj h;simp
 | b::l,s,h=>by
  obtain⟨x,t,h1,h2,rfl⟩:=dN.1 h;obtain⟨i1,i2,i3⟩:=uW ok h2;obtain⟨r1,r2,r3⟩:=ok.rng x (fB h1).1;simp only [List.length_cons]
  push_cast
  omega
theorem KV (ok:aU v) {a:Bytes}: ∀ {l:List Bytes} {s:Int×Int},wk v a l=some s→(∀z∈l,aG v.pts z=true)∧(l≠[]→aG v.pts a=true)
 | [],s,h=>by simp
 | b::l,s,h=>by
  obtain⟨x,t,h1,h2,rfl⟩:=dN.1 h;obtain⟨i1,i2⟩:=KV ok h2;obtain⟨m,e1,e2⟩:=fB h1;obtain⟨p1,p2,_⟩:=ok.ends x m;rw [e1] at p1;rw [e2] at p2
  refine⟨fun z hz=> ?_,fun _=>p1⟩;rcases List.mem_cons.1 hz with rfl | hz
  ·exact p2
  ·exact i1 z hz
theorem nV (a:Bytes): ∀l:List Bytes,dJ a l∈a::l
 | []=>by simp [dJ]
 | b::l=>List.mem_cons_of_mem _ (nV b l)
theorem lX (ok:aU v): ∀(n:Nat) (a:Bytes) (l:List Bytes) (s:Int×Int),l.length≤n→wk v a l=some s→
  ∃l' s',wk v a l'=some s'∧dJ a l'=dJ a l∧(a::l').Nodup∧(∀z∈l',z∈l)∧(l'=l∨(s'.1<s.1∧l'.length<l.length))
 | 0,a,l,s,hn,h=>by
  obtain rfl:l=[]:=List.length_eq_zero_iff.1 (by omega);exact⟨[],s,h,rfl,by simp,by simp,.inl rfl⟩
 | n+1,a,[],s,hn,h=>⟨[],s,h,rfl,by simp,by simp,.inl rfl⟩
 | n+1,a,b::l,s,hn,h=>by
  by_cases ha:a∈b::l
  ·obtain⟨x,y,e⟩:=List.append_of_mem ha;rw [e,show x++a::y=(x++[a])++y by simp] at h;obtain⟨t,u,h1,h2,rfl⟩:=kY.1 h;rw [eO] at h2;have hr:=uW ok h1;have hyl:y.length≤n:=by
    have:=congrArg List.length e;simp at this hn;omega
   obtain⟨l',s',q1,q2,q3,q4,q5⟩:=lX ok n a y u hyl h2;simp at hr;have hlen:=congrArg List.length e;simp at hlen;refine⟨l',s',q1,?_,q3,fun z hz=> ?_,.inr ⟨?_,?_⟩⟩
   ·rw [q2,e,show x++a::y=(x++[a])++y by simp,rV,eO]
   ·rw [e];simp [q4 z hz]
   ·rcases q5 with rfl | ⟨q5,q6⟩
    ·have:s'=u:=by rw [q1] at h2;exact Option.some.inj h2
     subst this;show s'.1<t.1+s'.1;omega
    ·show s'.1<t.1+u.1;omega
   ·rcases q5 with rfl | ⟨q5,q6⟩
    ·simp;omega
    ·simp;omega
  ·obtain⟨x,t,h1,h2,rfl⟩:=dN.1 h;obtain⟨l',s',q1,q2,q3,q4,q5⟩:=lX ok n b l t (by simpa using hn) h2;refine⟨b::l',(x.min+s'.1,x.max+s'.2),dN.2 ⟨x,s',h1,q1,rfl⟩,q2,List.nodup_cons.2 ⟨fun hm=>ha ?_,q3⟩,fun z hz=> ?_,?_⟩
   ·rcases List.mem_cons.1 hm with rfl | hm
    ·simp
    ·exact List.mem_cons_of_mem _ (q4 a hm)
   ·rcases List.mem_cons.1 hz with rfl | hz
    ·simp
    ·exact List.mem_cons_of_mem _ (q4 z hz)
   ·rcases q5 with rfl | ⟨q5,q6⟩
    ·exact .inl rfl
    ·exact .inr ⟨by show x.min+s'.1<x.min+t.1;omega,by simpa using q6⟩
theorem tL: ∀ {l m:List Bytes},l.Nodup→(∀z∈l,z∈m)→l.length≤m.length
 | [],m,_,_=>by simp
 | a::l,m,hn,h=>by
  obtain⟨h1,h2⟩:=List.nodup_cons.1 hn;have ha:=h a List.mem_cons_self;have:=tL (m:=m.erase a) h2 fun z hz=>(List.mem_erase_of_ne (fun e:z=a=>h1 (by rw [←e];exact hz))).2 (h z (List.mem_cons_of_mem _ hz));rw [List.length_erase_of_mem ha] at this;have:=List.length_pos_of_mem ha;simp;omega
theorem pK (ok:aU v) {a:Bytes} {l:List Bytes} {s:Int×Int} (h:wk v a l=some s)(ha:aG v.pts a=true)(hn:(a::l).Nodup):l.length+1≤v.pts.length:=by
 have:=tL (m:=bu v) hn fun z hz=>(rC v z).2 (by
  rcases List.mem_cons.1 hz with rfl | hz
  ·exact ha
  ·exact (KV ok h).1 z hz)
 rw [kJ] at this;simpa using this
end
def bD (v:bg)(p:List Bytes):Int×Int×Int:=match p with
 | []=>(0,0,16)
 | a::l=>if (a::l).all (aG v.pts) then (match wk v a l with
  | some s=>(s.1,s.2,0)
  | none=>(0,0,21)) else (0,0,16)
theorem xK {v:bg} {p:List Bytes} (hne:p≠[])(h: ∃s∈p,aG v.pts s=false):bD v p=(0,0,16):=by
 cases p with
 | nil=>exact absurd rfl hne
 | cons a l=>
  obtain⟨s,hs,h⟩:=h;rw [bD,if_neg];intro hc;rw [List.all_eq_true.1 hc s hs] at h;cases h
theorem jL {v:bg} {a:Bytes} {l:List Bytes} (h: ∀s∈a::l,aG v.pts s=true):bD v (a::l)=match wk v a l with
  | some s=>(s.1,s.2,0)
  | none=>(0,0,21):=by
 rw [bD,if_pos (List.all_eq_true.2 h)]
def iter {α:Type} (f:α→α):Nat→α→α
 | 0,x=>x
 | n+1,x=>f (iter f n x)
def iP (out:List Bytes)(x:Lk):List Bytes:=if x.src∈out then JJ out x.dst else out
def rE (v:bg)(out:List Bytes):List Bytes:=v.lks.foldl iP out
def Pz (v:bg)(a:Bytes):List Bytes:=if aG v.pts a then iter (rE v) v.pts.length [a] else []
def NU (v:bg)(a b:Bytes):Prop:= ∃l s,wk v a l=some s∧dJ a l=b
section
variable {v : bg}
theorem NU.refl (a:Bytes):NU v a a:=⟨[],(0,0),rfl,rfl⟩
theorem NU.step (ok:aU v) {a:Bytes} {x:Lk} (hx:x∈v.lks)(h:NU v a x.src):NU v a x.dst:=by
 obtain⟨l,s,h1,h2⟩:=h;refine⟨l++[x.dst],(s.1+(x.min+0),s.2+(x.max+0)),kY.2 ⟨s,(x.min+0,x.max+0),h1,?_,rfl⟩,eO _ _ _⟩;rw [h2];exact dN.2 ⟨x,(0,0),ok.lkOf hx,rfl,rfl⟩
theorem Ij (ok:aU v)(a:Bytes): ∀(ls:List Lk) (out:List Bytes),(∀x∈ls,x∈v.lks)→vo out→out.Nodup→(∀t∈out,NU v a t)→
  vo (ls.foldl iP out)∧(ls.foldl iP out).Nodup∧(∀t∈ls.foldl iP out,NU v a t)∧(∀t∈out,t∈ls.foldl iP out)∧ ∀x∈ls,x.src∈out→x.dst∈ls.foldl iP out
 | [],out,_,h1,h2,h3=>⟨h1,h2,h3,fun t h=>h,by simp⟩
 | x::ls,out,hl,h1,h2,h3=>by
  have hs:vo (iP out x)∧(iP out x).Nodup∧(∀t∈iP out x,NU v a t)∧(∀t∈out,t∈iP out x)∧(x.src∈out→x.dst∈iP out x):=by
   unfold iP;split
   ·rename_i hx;refine⟨OE _ h1,JK _ h2,fun t ht=> ?_,fun t ht=>(AC _ _ _).2 (.inr ht),fun _=>(AC _ _ _).2 (.inl rfl)⟩;rcases (AC _ _ _).1 ht with rfl | ht
    ·exact (h3 _ hx).step ok (hl x List.mem_cons_self)
    ·exact h3 t ht
   ·rename_i hx;exact⟨h1,h2,h3,fun t h=>h,fun h=>absurd h hx⟩
  obtain⟨s1,s2,s3,s4,s5⟩:=hs;obtain⟨i1,i2,i3,i4,i5⟩:=Ij ok a ls _ (fun y hy=>hl y (List.mem_cons_of_mem _ hy)) s1 s2 s3;rw [List.foldl_cons];refine⟨i1,i2,i3,fun t ht=>i4 t (s4 t ht),fun y hy hs=> ?_⟩;rcases List.mem_cons.1 hy with rfl | hy
  ·exact i4 _ (s5 hs)
  ·exact i5 y hy (s4 _ hs)
theorem Ik (ok:aU v)(a:Bytes): ∀n,vo (iter (rE v) n [a])∧(iter (rE v) n [a]).Nodup∧(∀t∈iter (rE v) n [a],NU v a t)∧ ∀l s,l.length≤n→wk v a l=some s→dJ a l∈iter (rE v) n [a]
 | 0=>by
  refine⟨by simp [iter,vo],by simp [iter],fun t ht=> ?_,fun l s hl h=> ?_⟩
  ·rw [iter,List.mem_singleton] at ht;subst ht;exact NU.refl _
  ·obtain rfl:l=[]:=List.length_eq_zero_iff.1 (by omega);simp [iter,dJ]
 | n+1=>by
  obtain⟨i1,i2,i3,i4⟩:=Ik ok a n;obtain⟨j1,j2,j3,j4,j5⟩:=Ij ok a v.lks _ (fun _ h=>h) i1 i2 i3;refine⟨j1,j2,j3,fun l s hl h=> ?_⟩;rcases List.eq_nil_or_concat l with rfl | ⟨l',b,rfl⟩
  ·exact j4 _ (i4 [] (0,0) (by simp) rfl)
  ·rw [List.concat_eq_append] at h hl ⊢;obtain⟨t,u,h1,h2,_⟩:=kY.1 h;obtain⟨x,_,h3,_,_⟩:=dN.1 h2;obtain⟨m,e1,e2⟩:=fB h3;rw [eO,←e2];refine j5 x m ?_;rw [e1];exact i4 l' t (by simp at hl;omega) h1
theorem Tm (ok:aU v)(a b:Bytes):b∈Pz v a↔aG v.pts a=true∧NU v a b:=by
 unfold Pz;split
 ·rename_i ha;obtain⟨i1,i2,i3,i4⟩:=Ik ok a v.pts.length;constructor
  ·intro h;exact⟨ha,i3 b h⟩
  ·rintro⟨_,l,s,h1,h2⟩;obtain⟨l',s',q1,q2,q3,_⟩:=lX ok _ a l s (Nat.le_refl _) h1;have:=pK ok q1 ha q3;rw [←h2,←q2];exact i4 l' s' (by omega) q1
 ·rename_i ha;simp [ha]
end
end Go.Toll
end
section
namespace Go.Toll
open Go Go.Abs
def Cv (d:Int)(p:List Bytes)(e:Int)(q:List Bytes):Prop:=d<e∨(d=e∧(p.length<q.length∨(p.length=q.length∧d9 p q≤0)))
theorem vz (d:Int)(p:List Bytes):Cv d p d p:= .inr ⟨rfl,.inr ⟨rfl,by rw [Eb];omega⟩⟩
theorem lS {d e f:Int} {p q r:List Bytes} (h1:Cv d p e q)(h2:Cv e q f r):Cv d p f r:=by
 unfold Cv at*;rcases h1 with h1 | ⟨rfl,h1⟩
 ·rcases h2 with h2 | ⟨rfl,h2⟩
  ·exact .inl (by omega)
  ·exact .inl h1
 ·rcases h2 with h2 | ⟨rfl,h2⟩
  ·exact .inl h2
  ·refine .inr ⟨rfl,?_⟩;rcases h1 with h1 | ⟨h1,h1'⟩
   ·rcases h2 with h2 | ⟨h2,_⟩ <;> exact .inl (by omega)
   ·rcases h2 with h2 | ⟨h2,h2'⟩
    ·exact .inl (by omega)
    ·exact .inr ⟨by omega,Bq h1' h2'⟩
theorem EJ {d e:Int} {p q:List Bytes} (h1:Cv d p e q)(h2:Cv e q d p):d=e∧p=q:=by
 unfold Cv at*;rcases h1 with h1 | ⟨rfl,h1⟩
 ·rcases h2 with h2 | ⟨rfl,h2⟩
  ·omega
  ·omega
 ·rcases h2 with h2 | ⟨_,h2⟩
  ·omega
  ·refine⟨rfl,?_⟩;rcases h1 with h1 | ⟨h1,h1'⟩
   ·rcases h2 with h2 | ⟨h2,_⟩ <;> omega
   ·rcases h2 with h2 | ⟨h2,h2'⟩
    ·omega
    ·have:=sF p q;exact sG.1 (by omega)
theorem Qr {d e:Int} {p q:List Bytes} (m:Int)(z:Bytes)(h:Cv d p e q):Cv (d+m) (p++[z]) (e+m) (q++[z]):=by
 unfold Cv at*;rcases h with h | ⟨rfl,h⟩
 ·exact .inl (by omega)
 ·refine .inr ⟨rfl,?_⟩;rcases h with h | ⟨h,h'⟩
  ·exact .inl (by simp;omega)
  ·refine .inr ⟨by simp;omega,?_⟩;rw [Bp _ _ h];split
   ·rw [Eb];omega
   ·exact h'
def Oe (d:Int)(p:List Bytes)(e:Int)(q:List Bytes):Bool:=
 if q=[]∨d≠e then decide (q=[]) || decide (d<e) else if p.length≠q.length then decide (p.length<q.length) else decide (d9 p q<0)
theorem Mc {d e:Int} {p q:List Bytes} (h:Oe d p e q=true)(hq:q≠[]):Cv d p e q:=by
 unfold Oe at h;split at h
 ·rename_i c;simp [hq] at h;exact .inl h
 ·rename_i c;have c1:d=e:=by
   rcases Decidable.em (d=e) with h | h
   ·exact h
   ·exact absurd (.inr h) c
  split at h
  ·exact .inr ⟨c1,.inl (by simpa using h)⟩
  ·rename_i c2;exact .inr ⟨c1,.inr ⟨by omega,by have:=of_decide_eq_true h;omega⟩⟩
theorem Jl {d e:Int} {p q:List Bytes} (h:Oe d p e q=false):q≠[]∧Cv e q d p:=by
 unfold Oe at h;split at h
 ·rename_i c;rw [Bool.or_eq_false_iff] at h;have h1:q≠[]:=of_decide_eq_false h.1;have h2: ¬d<e:=of_decide_eq_false h.2;refine⟨h1,?_⟩;rcases c with c | c
  ·exact absurd c h1
  ·exact .inl (by omega)
 ·rename_i c;have c0:q≠[]:=fun h=>c (.inl h);have c1:d=e:=by
   rcases Decidable.em (d=e) with h | h
   ·exact h
   ·exact absurd (.inr h) c
  refine⟨c0,?_⟩;split at h
  ·rename_i c2;have h2: ¬p.length<q.length:=of_decide_eq_false h;exact .inr ⟨c1.symm,.inl (by omega)⟩
  ·rename_i c2;have h2: ¬d9 p q<0:=of_decide_eq_false h;have:=sF p q;exact .inr ⟨c1.symm,.inr ⟨by omega,by omega⟩⟩
def Bu (l:List Pt)(s:Bytes):Nat:=l.findIdx fun p=>decide (p.name=s)
theorem Bv {l:List Pt} {s:Bytes} (h:aG l s=true): ∃p,l[Bu l s]? =some p∧p.name=s:=by
 rw [aG,List.any_eq_true] at h;have hlt:Bu l s<l.length:=List.findIdx_lt_length.2 h;refine⟨l[Bu l s],zB hlt,?_⟩;have:=List.findIdx_getElem (w:=hlt) (p:=fun p:Pt=>decide (p.name=s));exact of_decide_eq_true this
theorem QY {l:List Pt} {s:Bytes} (h:aG l s=true):Bu l s<l.length:=by
 obtain⟨p,hp,_⟩:=Bv h;exact (zA.1 hp).1
theorem Po {l:List Pt} {s t:Bytes} (hs:aG l s=true)(ht:aG l t=true)(h:Bu l s=Bu l t):s=t:=by
 obtain⟨p,hp,rfl⟩:=Bv hs;obtain⟨q,hq,rfl⟩:=Bv ht;rw [h,hq] at hp;exact (congrArg Pt.name (Option.some.inj hp)).symm
abbrev St:=List (List Bytes×Int)
def lN (v:bg)(st:St)(s:Bytes):List Bytes×Int:=st.getD (Bu v.pts s) ([],0)
def oz (v:bg)(st:St)(x:Lk):St:=
 if (lN v st x.src).1=[] then st
 else if Oe ((lN v st x.src).2+x.min) ((lN v st x.src).1++[x.dst]) (lN v st x.dst).2 (lN v st x.dst).1 then st.set (Bu v.pts x.dst) ((lN v st x.src).1++[x.dst],(lN v st x.src).2+x.min) else st
def uK (v:bg)(st:St):St:=v.lks.foldl (oz v) st
def tQ (v:bg)(a:Bytes):St:=(v.pts.map fun _=>(([]:List Bytes),(0:Int))).set (Bu v.pts a) ([a],0)
def NY (v:bg)(a:Bytes):St:=iter (uK v) v.pts.length (tQ v a)
def l9 (v:bg)(a b:Bytes):Option (List Bytes×Int):=
 if aG v.pts a=true∧aG v.pts b=true then (if (lN v (NY v a) b).1=[] then none else some (lN v (NY v a) b)) else none
structure qo (v:bg)(a b:Bytes)(l:List Bytes)(d:Int):Prop where
 walk: ∃s,wk v a l=some s∧s.1=d
 ends:dJ a l=b
 best: ∀l' s,wk v a l'=some s→dJ a l'=b→Cv d (a::l) s.1 (a::l')
section
variable {v : bg}
theorem qo.uniq {a b:Bytes} {l l':List Bytes} {d d':Int} (h:qo v a b l d)(h':qo v a b l' d'):l=l'∧d=d':=by
 obtain⟨s,w1,rfl⟩:=h.walk;obtain⟨s',w1',rfl⟩:=h'.walk;obtain⟨e1,e2⟩:=EJ (h.best l' s' w1' h'.ends) (h'.best l s w1 h.ends);exact⟨by injection e2,e1⟩
theorem zg (st:St)(hl:st.length=v.pts.length) {s t:Bytes} (hs:aG v.pts s=true)(ht:aG v.pts t=true)(y:List Bytes×Int):lN v (st.set (Bu v.pts s) y) t=if t=s then y else lN v st t:=by
 unfold lN;rw [List.getD_eq_getElem?_getD,List.getD_eq_getElem?_getD,List.getElem?_set];by_cases h:t=s
 ·subst h;rw [if_pos rfl,if_pos rfl,if_pos (by rw [hl];exact QY ht)];rfl
 ·rw [if_neg h,if_neg (fun e=>h (Po ht hs e.symm))]
structure NZ (v:bg)(a:Bytes)(st:St):Prop where
 len:st.length=v.pts.length
 walk: ∀t,aG v.pts t=true→(lN v st t).1≠[]→ ∃l s,(lN v st t).1=a::l∧wk v a l=some s∧s.1=(lN v st t).2∧dJ a l=t
def BP (v:bg)(st' st:St):Prop:= ∀t,aG v.pts t=true→(lN v st t).1≠[]→(lN v st' t).1≠[]∧Cv (lN v st' t).2 (lN v st' t).1 (lN v st t).2 (lN v st t).1
theorem BP.refl (st:St):BP v st st:=fun t _ h=>⟨h,vz _ _⟩
theorem BP.trans {a b c:St} (h1:BP v a b)(h2:BP v b c):BP v a c:=fun t ht h=>by
 obtain⟨p1,p2⟩:=h2 t ht h;obtain⟨q1,q2⟩:=h1 t ht p1;exact⟨q1,lS q2 p2⟩
theorem Pq (ok:aU v) {a:Bytes} {st:St} (h:NZ v a st) {x:Lk} (hx:x∈v.lks):NZ v a (oz v st x)∧BP v (oz v st x) st∧
  ((lN v st x.src).1≠[]→(lN v (oz v st x) x.dst).1≠[]∧Cv (lN v (oz v st x) x.dst).2 (lN v (oz v st x) x.dst).1 ((lN v st x.src).2+x.min) ((lN v st x.src).1++[x.dst])):=by
 obtain⟨p1,p2,p3⟩:=ok.ends x hx;unfold oz;split
 ·rename_i hz;exact⟨h,BP.refl _,fun h=>absurd hz h⟩
 rename_i hz;obtain⟨l,s,e1,e2,e3,e4⟩:=h.walk x.src p1 hz;split
 ·rename_i hb;have hne:(lN v st x.src).1++[x.dst]≠[]:=by simp
  refine⟨⟨by rw [List.length_set];exact h.len,fun t ht hh=> ?_⟩,fun t ht hh=> ?_,fun _=> ?_⟩
  ·rw [zg st h.len p2 ht] at hh ⊢;split
   ·rename_i et;subst et;refine⟨l++[x.dst],(s.1+(x.min+0),s.2+(x.max+0)),by rw [e1];rfl,kY.2 ⟨s,(x.min+0,x.max+0),e2,?_,rfl⟩,?_,eO _ _ _⟩
    ·rw [e4];exact dN.2 ⟨x,(0,0),ok.lkOf hx,rfl,rfl⟩
    ·show s.1+(x.min+0)=_+x.min;rw [e3];omega
   ·rename_i et;rw [if_neg et] at hh;exact h.walk t ht hh
  ·rw [zg st h.len p2 ht];split
   ·rename_i et;subst et;exact⟨hne,Mc hb hh⟩
   ·exact⟨hh,vz _ _⟩
  ·rw [zg st h.len p2 p2,if_pos rfl];exact⟨hne,vz _ _⟩
 ·rename_i hb;have hb:=Jl (by simpa using hb);exact⟨h,BP.refl _,fun _=>hb⟩
theorem Ic (ok:aU v) {a:Bytes}: ∀(ls:List Lk) {st:St},(∀x∈ls,x∈v.lks)→NZ v a st→NZ v a (ls.foldl (oz v) st)∧BP v (ls.foldl (oz v) st) st∧
  ∀x∈ls,∀d p,p≠[]→(lN v st x.src).1≠[]→Cv (lN v st x.src).2 (lN v st x.src).1 d p→(lN v (ls.foldl (oz v) st) x.dst).1≠[]∧Cv (lN v (ls.foldl (oz v) st) x.dst).2 (lN v (ls.foldl (oz v) st) x.dst).1 (d+x.min) (p++[x.dst])
 | [],st,_,h=>⟨h,BP.refl _,by simp⟩
 | y::ls,st,hl,h=>by
  obtain⟨s1,s2,s3⟩:=Pq ok h (hl y List.mem_cons_self);obtain⟨i1,i2,i3⟩:=Ic ok ls (fun z hz=>hl z (List.mem_cons_of_mem _ hz)) s1;rw [List.foldl_cons];refine⟨i1,i2.trans s2,fun x hx d p hp hne hb=> ?_⟩;rcases List.mem_cons.1 hx with rfl | hx
  ·obtain⟨q1,q2⟩:=s3 hne;obtain⟨r1,r2⟩:=i2 x.dst (ok.ends x (hl x List.mem_cons_self)).2.1 q1;exact⟨r1,lS r2 (lS q2 (Qr _ _ hb))⟩
  ·obtain⟨q1,q2⟩:=s2 x.src (ok.ends x (hl x (List.mem_cons_of_mem _ hx))).1 hne;exact i3 x hx d p hp q1 (lS q2 hb)
theorem Ie (v:bg) {a:Bytes} (ha:aG v.pts a=true) {t:Bytes} (ht:aG v.pts t=true):lN v (tQ v a) t=if t=a then ([a],0) else ([],0):=by
 rw [tQ,zg _ (by simp) ha ht];split
 ·rfl
 ·unfold lN;rw [List.getD_eq_getElem?_getD,List.getElem?_map];cases v.pts[Bu v.pts t]? <;> rfl
theorem Ig (ok:aU v) {a:Bytes} (ha:aG v.pts a=true): ∀n,NZ v a (iter (uK v) n (tQ v a))∧
  ∀l s,l.length≤n→wk v a l=some s→(lN v (iter (uK v) n (tQ v a)) (dJ a l)).1≠[]∧Cv (lN v (iter (uK v) n (tQ v a)) (dJ a l)).2 (lN v (iter (uK v) n (tQ v a)) (dJ a l)).1 s.1 (a::l)
 | 0=>by
  refine⟨⟨by simp [iter,tQ],fun t ht hh=> ?_⟩,fun l s hl h=> ?_⟩
  ·rw [iter,Ie v ha ht] at hh ⊢;split
   ·rename_i e;exact⟨[],(0,0),rfl,rfl,rfl,e.symm⟩
   ·rename_i e;rw [if_neg e] at hh;exact absurd rfl hh
  ·obtain rfl:l=[]:=List.length_eq_zero_iff.1 (by omega);obtain rfl:=Option.some.inj h;rw [iter,dJ,Ie v ha ha,if_pos rfl];exact⟨by simp,vz _ _⟩
 | n+1=>by
  obtain⟨i1,i2⟩:=Ig ok ha n;obtain⟨j1,j2,j3⟩:=Ic ok v.lks (fun _ h=>h) i1;refine⟨j1,fun l s hl h=> ?_⟩;rcases List.eq_nil_or_concat l with rfl | ⟨l',b,rfl⟩
  ·obtain⟨q1,q2⟩:=i2 [] s (by simp) h;obtain⟨r1,r2⟩:=j2 _ ha q1;exact⟨r1,lS r2 q2⟩
  ·rw [List.concat_eq_append] at h hl ⊢;obtain⟨t,u,h1,h2,rfl⟩:=kY.1 h;obtain⟨x,w,h3,h4,rfl⟩:=dN.1 h2;obtain rfl:=Option.some.inj h4;obtain⟨m,e1,e2⟩:=fB h3;obtain⟨q1,q2⟩:=i2 l' t (by simp at hl;omega) h1;rw [←e1] at q1 q2;have:=j3 x m t.1 (a::l') (by simp) q1 q2;have e:iter (uK v) (n+1) (tQ v a)=v.lks.foldl (oz v) (iter (uK v) n (tQ v a)):=rfl;rw [eO,←e2,e];simpa using this
theorem BJ (ok:aU v) {a b:Bytes} (ha:aG v.pts a=true)(hb:aG v.pts b=true):
  ((lN v (NY v a) b).1=[]→ ∀l s,wk v a l=some s→dJ a l≠b)∧((lN v (NY v a) b).1≠[]→ ∃l,(lN v (NY v a) b).1=a::l∧qo v a b l (lN v (NY v a) b).2):=by
 obtain⟨i1,i2⟩:=Ig ok ha v.pts.length;have key: ∀l s,wk v a l=some s→dJ a l=b→(lN v (NY v a) b).1≠[]∧Cv (lN v (NY v a) b).2 (lN v (NY v a) b).1 s.1 (a::l):=by
  intro l s h he;obtain⟨l',s',q1,q2,q3,_,q5⟩:=lX ok _ a l s (Nat.le_refl _) h;have hl:=pK ok q1 ha q3;obtain⟨r1,r2⟩:=i2 l' s' (by omega) q1;rw [q2,he] at r1 r2;refine⟨r1,?_⟩;rcases q5 with rfl | ⟨q5,_⟩
  ·rw [q1] at h;obtain rfl:=Option.some.inj h;exact r2
  ·exact lS r2 (.inl q5)
 refine⟨fun hz l s h he=>(key l s h he).1 hz,fun hz=> ?_⟩;obtain⟨l,s,e1,e2,e3,e4⟩:=i1.walk b hb hz;refine⟨l,e1,⟨s,e2,e3⟩,e4,fun l' s' h he=> ?_⟩;have:=(key l' s' h he).2;rw [show (lN v (NY v a) b).1=a::l from e1] at this;exact this
theorem Jk (ok:aU v) {a b:Bytes} {l:List Bytes} {d:Int} (ha:aG v.pts a=true)(hb:aG v.pts b=true)(h:qo v a b l d):l9 v a b=some (a::l,d):=by
 obtain⟨r1,r2⟩:=BJ ok ha hb;unfold l9;rw [if_pos ⟨ha,hb⟩];split
 ·rename_i hz;obtain⟨s,w1,_⟩:=h.walk;exact absurd h.ends (r1 hz l s w1)
 ·rename_i hz;obtain⟨l',e1,e2⟩:=r2 hz;obtain⟨rfl,e3⟩:=e2.uniq h;rw [←e1,←e3]
theorem Jj (ok:aU v) {a b:Bytes} (h: ∀l s,wk v a l=some s→dJ a l≠b):l9 v a b=none:=by
 unfold l9;split
 ·rename_i hh;obtain⟨r1,r2⟩:=BJ ok hh.1 hh.2;split
  ·rfl
  ·rename_i hz;obtain⟨l,e1,e2⟩:=r2 hz;obtain⟨s,w1,_⟩:=e2.walk;exact absurd e2.ends (h l s w1)
 ·rfl
theorem zR (ok:aU v)(a b:Bytes):(∃l d,l9 v a b=some (a::l,d)∧qo v a b l d∧aG v.pts a=true∧aG v.pts b=true)∨(l9 v a b=none∧(aG v.pts a=true→aG v.pts b=true→ ¬NU v a b)):=by
 by_cases hh:aG v.pts a=true∧aG v.pts b=true
 ·obtain⟨r1,r2⟩:=BJ ok hh.1 hh.2;by_cases hz:(lN v (NY v a) b).1=[]
  ·right
   refine⟨by unfold l9;rw [if_pos hh,if_pos hz],fun _ _ ⟨l,s,h1,h2⟩=>r1 hz l s h1 h2⟩
  ·left
   obtain⟨l,e1,e2⟩:=r2 hz;refine⟨l,(lN v (NY v a) b).2,?_,e2,hh⟩;unfold l9;rw [if_pos hh,if_neg hz,←e1]
 ·right
  refine⟨by unfold l9;rw [if_neg hh],fun h1 h2=>absurd ⟨h1,h2⟩ hh⟩
end
end Go.Toll
end
section
namespace Go.Toll
open Go Go.Abs
def lastT (p:List Bytes):Bytes:=p.getLast?.getD []
@[simp] theorem iZ (p:List Bytes) (x:Bytes):lastT (p++[x])=x:=by simp [lastT]
@[simp] theorem Uf (x:Bytes):lastT [x]=x:=rfl
theorem DN {p:List Bytes} (h:p≠[]):lastT p∈p:=by
 rcases List.eq_nil_or_concat p with rfl | ⟨q,x,rfl⟩
 ·exact absurd rfl h
 ·rw [List.concat_eq_append,iZ];simp
def qK (st:List Bytes×List Bytes)(x:Bytes):List Bytes×List Bytes:=if x∈st.1 then st else (st.1++[x],st.2++[x])
def kw (v:bg)(st:List Bytes×List Bytes)(y:Bytes):List Bytes×List Bytes:=(dM v y).foldl qK st
def wV (v:bg)(seen front:List Bytes):List Bytes×List Bytes:=front.foldl (kw v) (seen,[])
def Ov (v:bg)(t:Bytes):Nat→List Bytes→List Bytes→Bool
 | 0,_,_=>false
 | n+1,seen,front=>if t∈front then true else Ov v t n (wV v seen front).1 (wV v seen front).2
def kS (v:bg)(p:List Bytes)(t:Bytes):Bool:=Ov v t (17 - p.length) p [lastT p]
def Rk (v:bg)(p:List Bytes)(a:Bytes)(k:Nat)(x:Bytes):Prop:= ∃w s,wk v a w=some s∧dJ a w=x∧(∀z∈w,z∉p)∧w.length=k
section
variable {v : bg}
theorem Jp (xs:List Bytes): ∀st:List Bytes×List Bytes,(∀x,x∈(xs.foldl qK st).1↔x∈st.1∨x∈xs)∧(∀x,x∈(xs.foldl qK st).2↔x∈st.2∨(x∈xs∧x∉st.1)):=by
 induction xs with
 | nil=>intro st;simp
 | cons y xs ih=>
  intro st;obtain⟨i1,i2⟩:=ih (qK st y);rw [List.foldl_cons];by_cases h:y∈st.1
  ·rw [show qK st y=st by rw [qK,if_pos h]] at i1 i2 ⊢;refine⟨fun x=> ?_,fun x=> ?_⟩
   ·rw [i1,List.mem_cons];constructor
    ·rintro (a | a);exact .inl a;exact .inr (.inr a)
    ·rintro (a | rfl | a);exact .inl a;exact .inl h;exact .inr a
   ·rw [i2,List.mem_cons];constructor
    ·rintro (a | ⟨a,b⟩);exact .inl a;exact .inr ⟨.inr a,b⟩
    ·rintro (a | ⟨rfl | a,b⟩);exact .inl a;exact absurd h b;exact .inr ⟨a,b⟩
  ·rw [show qK st y=(st.1++[y],st.2++[y]) by rw [qK,if_neg h]] at i1 i2 ⊢;refine⟨fun x=> ?_,fun x=> ?_⟩
   ·rw [i1,List.mem_cons,List.mem_append,List.mem_singleton,or_assoc]
   ·rw [i2,List.mem_cons,List.mem_append,List.mem_singleton,List.mem_append,List.mem_singleton];constructor
    ·rintro ((a | rfl) | ⟨a,b⟩)
     ·exact .inl a
     ·exact .inr ⟨.inl rfl,h⟩
     ·exact .inr ⟨.inr a,fun c=>b (.inl c)⟩
    ·rintro (a | ⟨rfl | a,b⟩)
     ·exact .inl (.inl a)
     ·exact .inl (.inr rfl)
     ·by_cases e:x=y
      ·exact .inl (.inr e)
      ·exact .inr ⟨a,by rintro (c | c);exact b c;exact e c⟩
theorem GD (v:bg)(ys:List Bytes): ∀st:List Bytes×List Bytes,(∀x∈st.2,x∈st.1)→
  (∀x,x∈(ys.foldl (kw v) st).1↔x∈st.1∨ ∃y∈ys,x∈dM v y)∧(∀x,x∈(ys.foldl (kw v) st).2↔x∈st.2∨((∃y∈ys,x∈dM v y)∧x∉st.1)):=by
 induction ys with
 | nil=>intro st _;simp
 | cons y ys ih=>
  intro st hst;obtain⟨a1,a2⟩:=Jp (dM v y) st;have hst': ∀x∈(kw v st y).2,x∈(kw v st y).1:=fun x hx=>by
   rw [kw,a2] at hx;rw [kw,a1];rcases hx with hx | hx
   ·exact .inl (hst x hx)
   ·exact .inr hx.1
  obtain⟨i1,i2⟩:=ih (kw v st y) hst';rw [List.foldl_cons];refine⟨fun x=> ?_,fun x=> ?_⟩
  ·rw [i1,kw,a1,or_assoc];simp
  ·rw [i2,kw,a1,a2];constructor
   ·rintro ((h | ⟨h,h'⟩) | ⟨⟨z,hz,h⟩,h'⟩)
    ·exact .inl h
    ·exact .inr ⟨⟨y,by simp,h⟩,h'⟩
    ·exact .inr ⟨⟨z,by simp [hz],h⟩,fun c=>h' (.inl c)⟩
   ·rintro (h | ⟨⟨z,hz,h⟩,h'⟩)
    ·exact .inl (.inl h)
    ·by_cases e:x∈dM v y
     ·exact .inl (.inr ⟨e,h'⟩)
     ·rcases List.mem_cons.1 hz with rfl | hz
      ·exact absurd h e
      ·exact .inr ⟨⟨z,hz,h⟩,by rintro (c | c);exact h' c;exact e c⟩
theorem Jq (v:bg)(seen front:List Bytes):(∀x,x∈(wV v seen front).1↔x∈seen∨ ∃y∈front,x∈dM v y)∧(∀x,x∈(wV v seen front).2↔((∃y∈front,x∈dM v y)∧x∉seen)):=by
 obtain⟨h1,h2⟩:=GD v front (seen,[]) (by simp);exact⟨h1,fun x=>by rw [wV,h2];simp⟩
theorem Rk.step (ok:aU v) {p:List Bytes} {a y x:Bytes} {k:Nat} (h:Rk v p a k y)(hx:x∈dM v y)(hp:x∉p):Rk v p a (k+1) x:=by
 obtain⟨w,s,h1,rfl,h3,h4⟩:=h;obtain⟨z,hz⟩:=(xg ok _ _).1 hx;refine⟨w++[x],_,kY.2 ⟨s,(z.min+0,z.max+0),h1,dN.2 ⟨z,(0,0),hz,rfl,rfl⟩,rfl⟩,eO _ _ _,fun u hu=> ?_,by simp [h4]⟩;rcases List.mem_append.1 hu with hu | hu
 ·exact h3 u hu
 ·rw [List.mem_singleton.1 hu];exact hp
theorem Rk.back (ok:aU v) {p:List Bytes} {a x:Bytes} {k:Nat} (h:Rk v p a (k+1) x): ∃y,Rk v p a k y∧x∈dM v y∧x∉p∧(y∈p→k=0∧y=a):=by
 obtain⟨w,s,h1,h2,h3,h4⟩:=h;rcases List.eq_nil_or_concat w with rfl | ⟨w',b,rfl⟩
 ·simp at h4
 ·rw [List.concat_eq_append] at h1 h2 h3 h4;rw [eO] at h2;subst h2;obtain⟨t,u,e1,e2,_⟩:=kY.1 h1;obtain⟨z,_,e3,_,_⟩:=dN.1 e2;refine⟨dJ a w',⟨w',t,e1,rfl,fun z hz=>h3 z (by simp [hz]),by simpa using h4⟩,(xg ok _ _).2 ⟨z,e3⟩,h3 _ (by simp),fun hy=> ?_⟩
  cases w' with
  | nil=>exact⟨by simp at h4;omega,rfl⟩
  | cons c w'=>exact absurd hy (h3 _ (by have:=nV c w';show dJ c w'∈_;rw [List.mem_append];exact .inl this))
theorem Rk.zero {p:List Bytes} {a x:Bytes} (h:Rk v p a 0 x):x=a:=by
 obtain⟨w,s,h1,h2,h3,h4⟩:=h;obtain rfl:=List.length_eq_zero_iff.1 h4;exact h2.symm
theorem Rk.out {p:List Bytes} {a x:Bytes} {k:Nat} (h:Rk v p a k x):x=a∨x∉p:=by
 obtain⟨w,s,h1,h2,h3,h4⟩:=h
 cases w with
 | nil=>exact .inl h2.symm
 | cons b w=>
  right
  rw [←h2];exact h3 _ (nV b w)
theorem Du (ok:aU v)(t:Bytes)(p:List Bytes)(a:Bytes)(ha:a∈p): ∀(n k:Nat) (seen front:List Bytes),(∀x∈front,Rk v p a k x)→(∀x∈p,x∈seen)→(∀x,(∃j,j≤k∧Rk v p a j x)→x∈seen)→
  (∀x∈seen,x∈front∨(∀y∈dM v x,y∈seen)∨(x∈p∧x≠a))→(t∈seen→t∈front∨(t∈p∧t≠a))→(∀j,j<k→ ¬Rk v p a j t)→
  (Ov v t n seen front=true↔ ∃j,j<k+n∧Rk v p a j t)
 | 0,k,seen,front,i1,i2,i3,i4,i5,i6=>by
  simp only [Ov,Bool.false_eq_true,false_iff];rintro⟨j,hj,h⟩;exact i6 j (by omega) h
 | n+1,k,seen,front,i1,i2,i3,i4,i5,i6=>by
  rw [Ov];by_cases hf:t∈front
  ·rw [if_pos hf];simp only [true_iff];exact⟨k,by omega,i1 t hf⟩
  ·rw [if_neg hf];obtain⟨l1,l2⟩:=Jq v seen front;have hk: ¬Rk v p a k t:=fun h=>by
    rcases i5 (i3 t ⟨k,by omega,h⟩) with h1 | ⟨h1,h2⟩
    ·exact hf h1
    ·rcases h.out with h3 | h3
     ·exact h2 h3
     ·exact h3 h1
   rw [Du ok t p a ha n (k+1) _ _ ?_ ?_ ?_ ?_ ?_ ?_]
   ·constructor
    ·rintro⟨j,hj,h⟩;exact⟨j,by omega,h⟩
    ·rintro⟨j,hj,h⟩;exact⟨j,by omega,h⟩
   ·intro x hx;obtain⟨⟨y,hy,hxy⟩,hxs⟩:=(l2 x).1 hx;exact (i1 y hy).step ok hxy fun hp=>hxs (i2 x hp)
   ·intro x hx;exact (l1 x).2 (.inl (i2 x hx))
   ·rintro x ⟨j,hj,h⟩;rw [l1];rcases zN k j with hjk | hjk
    ·obtain rfl:j=k+1:=by omega
     obtain⟨y,hy,hxy,hxp,hyp⟩:=h.back ok;have hys:=i3 y ⟨k,by omega,hy⟩;rcases i4 y hys with h1 | h1 | ⟨h1,h2⟩
     ·exact .inr ⟨y,h1,hxy⟩
     ·exact .inl (h1 x hxy)
     ·exact absurd (hyp h1).2 h2
    ·exact .inl (i3 x ⟨j,hjk,h⟩)
   ·intro x hx;rw [l1] at hx;by_cases hm:x∈(wV v seen front).2
    ·exact .inl hm
    ·have hxs:x∈seen:=by
      rcases hx with hx | hx
      ·exact hx
      ·exact Classical.byContradiction fun hc=>hm ((l2 x).2 ⟨hx,hc⟩)
     rcases i4 x hxs with h1 | h1 | h1
     ·exact .inr (.inl fun y hy=>(l1 y).2 (.inr ⟨x,h1,hy⟩))
     ·exact .inr (.inl fun y hy=>(l1 y).2 (.inl (h1 y hy)))
     ·exact .inr (.inr h1)
   ·intro hx;rw [l1] at hx;by_cases hts:t∈seen
    ·rcases i5 hts with h1 | h1
     ·exact absurd h1 hf
     ·exact .inr h1
    ·rcases hx with hx | hx
     ·exact absurd hx hts
     ·exact .inl ((l2 t).2 ⟨hx,hts⟩)
   ·intro j hj h;rcases zN j k with h1 | h1
    ·exact i6 j h1 h
    ·obtain rfl:j=k:=by omega
     exact hk h
theorem Jn (ok:aU v)(t:Bytes) {p:List Bytes} (hp:p≠[]):kS v p t=true↔ ∃k,Rk v p (lastT p) k t∧p.length+k≤16:=by
 rw [kS,Du ok t p (lastT p) (DN hp) (17 - p.length) 0 p [lastT p]]
 ·constructor
  ·rintro⟨j,hj,h⟩;exact⟨j,h,by omega⟩
  ·rintro⟨j,h,hj⟩;exact⟨j,by omega,h⟩
 ·intro x hx;rw [List.mem_singleton.1 hx];exact⟨[],(0,0),rfl,rfl,by simp,rfl⟩
 ·exact fun x hx=>hx
 ·rintro x ⟨j,hj,h⟩;obtain rfl:j=0:=by omega
  rw [h.zero];exact DN hp
 ·intro x hx;by_cases e:x=lastT p
  ·exact .inl (by simp [e])
  ·exact .inr (.inr ⟨hx,e⟩)
 ·intro ht;by_cases e:t=lastT p
  ·exact .inl (by simp [e])
  ·exact .inr ⟨ht,e⟩
 ·intro j hj;omega
end
def jA (v:bg)(t:Bytes):Nat→List Bytes→List (List Bytes)→List (List Bytes)
 | 0,path,found=>if lastT path=t then found++[path] else found
 | n+1,path,found=>if lastT path=t then found++[path] else (dM v (lastT path)).foldl (fun f x=>if f.length≤1024∧x∉path∧kS v (path++[x]) t=true then jA v t n (path++[x]) f else f) found
def eP (v:bg)(a b:Bytes):List (List Bytes)×Int:=
 if aG v.pts a=true∧aG v.pts b=true then (if 1024<(jA v b 15 [a] []).length then ([],3) else (jA v b 15 [a] [],0)) else ([],16)
structure De (v:bg)(path:List Bytes)(t:Bytes)(q:List Bytes):Prop where
 ex: ∃w s,q=path++w∧wk v (lastT path) w=some s∧dJ (lastT path) w=t∧(∀z∈w,z∉path)∧w.Nodup∧q.length≤16
section
variable {v : bg}
theorem Ah (ok:aU v)(t:Bytes)(n:Nat)(path:List Bytes)(hp:path≠[])
  (ih: ∀x f,x∉path→x∈dM v (lastT path)→kS v (path++[x]) t=true→ ∃new,jA v t n (path++[x]) f=f++new∧(∀q∈new,De v (path++[x]) t q)∧new.Pairwise fun a b=>d9 a b<0):
  ∀(xs:List Bytes) (f:List (List Bytes)),vo xs→xs.Nodup→(∀x∈xs,x∈dM v (lastT path))→
   ∃new,xs.foldl (fun f x=>if f.length≤1024∧x∉path∧kS v (path++[x]) t=true then jA v t n (path++[x]) f else f) f=f++new∧
    (∀q∈new,∃x∈xs,x∉path∧De v (path++[x]) t q)∧new.Pairwise fun a b=>d9 a b<0
 | [],f,_,_,_=>⟨[],by simp,by simp,.nil⟩
 | x::xs,f,ha,hn,hm=>by
  obtain⟨a1,a2⟩:=List.pairwise_cons.1 ha;obtain⟨n1,n2⟩:=List.nodup_cons.1 hn;rw [List.foldl_cons];by_cases hc:f.length≤1024∧x∉path∧kS v (path++[x]) t=true
  ·rw [if_pos hc];obtain⟨new,e1,e2,e3⟩:=ih x f hc.2.1 (hm x List.mem_cons_self) hc.2.2;obtain⟨new',i1,i2,i3⟩:=Ah ok t n path hp ih xs (jA v t n (path++[x]) f) a2 n2 fun y hy=>hm y (List.mem_cons_of_mem _ hy);refine⟨new++new',by rw [i1,e1,zK],fun q hq=> ?_,List.pairwise_append.2 ⟨e3,i3,fun q hq r hr=> ?_⟩⟩
   ·rcases List.mem_append.1 hq with hq | hq
    ·exact⟨x,List.mem_cons_self,hc.2.1,e2 q hq⟩
    ·obtain⟨y,hy,h⟩:=i2 q hq;exact⟨y,List.mem_cons_of_mem _ hy,h⟩
   ·obtain⟨w,s,rfl,_⟩:=(e2 q hq).ex;obtain⟨y,hy,_,hY⟩:=i2 r hr;obtain⟨w',s',rfl,_⟩:=hY.ex;rw [zK,zK,Pj];show d9 (x::w) (y::w')<0;have hle:mR x y≤0:=(K5 x y).2 (of_decide_eq_true (a1 y hy));have hne:mR x y≠0:=fun e=>n1 (jM.1 e▸hy);rw [d9,if_neg hne];omega
  ·rw [if_neg hc];obtain⟨new',i1,i2,i3⟩:=Ah ok t n path hp ih xs f a2 n2 fun y hy=>hm y (List.mem_cons_of_mem _ hy);exact⟨new',i1,fun q hq=>by obtain⟨y,hy,h⟩:=i2 q hq;exact⟨y,List.mem_cons_of_mem _ hy,h⟩,i3⟩
theorem De.cons (ok:aU v) {path:List Bytes} {t x:Bytes} {q:List Bytes} (hx:x∈dM v (lastT path))(hp:x∉path)(h:De v (path++[x]) t q):De v path t q:=by
 obtain⟨w,s,rfl,h1,h2,h3,h4,h5⟩:=h.ex;rw [iZ] at h1 h2;obtain⟨z,hz⟩:=(xg ok _ _).1 hx;refine⟨x::w,_,by simp,dN.2 ⟨z,s,hz,h1,rfl⟩,h2,fun u hu=> ?_,List.nodup_cons.2 ⟨fun hm=> ?_,h4⟩,h5⟩
 ·rcases List.mem_cons.1 hu with rfl | hu
  ·exact hp
  ·exact fun hc=>h3 u hu (by simp [hc])
 ·exact h3 x hm (by simp)
theorem Dy (ok:aU v)(t:Bytes): ∀(n:Nat) (path:List Bytes) (f:List (List Bytes)),path≠[]→path.length+n=16→
  ∃new,jA v t n path f=f++new∧(∀q∈new,De v path t q)∧new.Pairwise fun a b=>d9 a b<0
 | 0,path,f,hp,hl=>by
  rw [jA];split
  ·rename_i e;exact⟨[path],rfl,fun q hq=>⟨[],(0,0),by rw [List.mem_singleton.1 hq];simp,rfl,e,by simp,by simp,by rw [List.mem_singleton.1 hq];omega⟩,List.pairwise_singleton _ _⟩
  ·exact⟨[],by simp,by simp,.nil⟩
 | n+1,path,f,hp,hl=>by
  rw [jA];split
  ·rename_i e;exact⟨[path],rfl,fun q hq=>⟨[],(0,0),by rw [List.mem_singleton.1 hq];simp,rfl,e,by simp,by simp,by rw [List.mem_singleton.1 hq];omega⟩,List.pairwise_singleton _ _⟩
  ·obtain⟨new,e1,e2,e3⟩:=Ah ok t n path hp (fun x f hx hm hc=>Dy ok t n (path++[x]) f (by simp) (by simp;omega)) _ f (MW v _) (ok.nextnd _) fun x hx=>hx;refine⟨new,e1,fun q hq=> ?_,e3⟩;obtain⟨x,hx,hxp,h⟩:=e2 q hq;exact h.cons ok hx hxp
theorem yf (ok:aU v)(a b:Bytes):(eP v a b).1.length≤1024∧((eP v a b).1.Pairwise fun p q=>d9 p q<0)∧
  ∀q∈(eP v a b).1,∃l s,q=a::l∧wk v a l=some s∧dJ a l=b∧q.Nodup∧q.length≤16∧aG v.pts a=true∧aG v.pts b=true:=by
 obtain⟨new,e1,e2,e3⟩:=Dy ok b 15 [a] [] (by simp) rfl;unfold eP;split
 ·rename_i hh;split
  ·simp
  ·rename_i hl;refine⟨by show (jA v b 15 [a] []).length≤1024;omega,by show (jA v b 15 [a] []).Pairwise _;rw [e1];exact e3,fun q hq=> ?_⟩;have hq:q∈jA v b 15 [a] []:=hq;rw [e1] at hq;obtain⟨w,s,rfl,h1,h2,h3,h4,h5⟩:=(e2 q hq).ex;exact⟨w,s,rfl,h1,h2,List.nodup_cons.2 ⟨fun hm=>h3 a hm (by simp),h4⟩,h5,hh⟩
 ·simp
def CE (v:bg)(t:Bytes)(n:Nat)(path:List Bytes)(f:List (List Bytes))(x:Bytes):List (List Bytes):=
 if f.length≤1024∧x∉path∧kS v (path++[x]) t=true then (match n with | 0=>f | n+1=>jA v t n (path++[x]) f) else f
def wX (v:bg)(t:Bytes)(n:Nat)(path:List Bytes)(f:List (List Bytes))(k:Nat):List (List Bytes):=((dM v (lastT path)).take k).foldl (CE v t n path) f
theorem Ag {v:bg} {t:Bytes} {n:Nat} {path:List Bytes} {f:List (List Bytes)} {x:Bytes} (h: ¬(f.length≤1024∧x∉path∧kS v (path++[x]) t=true)):CE v t n path f x=f:=by
 unfold CE;rw [if_neg h]
theorem OB {v:bg} {t:Bytes} {n:Nat} {path:List Bytes} {f:List (List Bytes)} {x:Bytes} (h:f.length≤1024∧x∉path∧kS v (path++[x]) t=true):CE v t (n+1) path f x=jA v t n (path++[x]) f:=by
 unfold CE;rw [if_pos h]
theorem Mm (v:bg)(t:Bytes)(n:Nat)(path:List Bytes)(f:List (List Bytes)):wX v t n path f 0=f:=rfl
theorem Dx {v:bg} {t:Bytes} {n:Nat} {path:List Bytes} {f:List (List Bytes)} {k:Nat} {x:Bytes} (h:(dM v (lastT path))[k]? =some x):wX v t n path f (k+1)=CE v t n path (wX v t n path f k) x:=by
 rw [wX,zM,h,Option.toList_some,List.foldl_append];rfl
theorem OA {v:bg} {t:Bytes} {n:Nat} {path:List Bytes} {f:List (List Bytes)} (h:lastT path≠t):wX v t n path f (dM v (lastT path)).length=jA v t n path f:=by
 rw [wX,List.take_length]
 cases n with
 | zero=>
  rw [jA,if_neg h];generalize dM v (lastT path)=l
  induction l with
  | nil=>rfl
  | cons x l ih=>
   rw [List.foldl_cons];have:CE v t 0 path f x=f:=by unfold CE;split <;> rfl
   rw [this,ih]
 | succ n=>rw [jA,if_neg h];rfl
theorem Mo {v:bg} {t:Bytes} {n:Nat} {path:List Bytes} {f:List (List Bytes)} (h:lastT path=t):jA v t n path f=f++[path]:=by
 cases n <;> rw [jA,if_pos h]
theorem Ld (v:bg)(t:Bytes): ∀(n:Nat) (path:List Bytes) (f:List (List Bytes)),f.length≤1024→(jA v t n path f).length≤1025
 | 0,path,f,h=>by
  rw [jA];split
  ·simp;omega
  ·omega
 | n+1,path,f,h=>by
  rw [jA];split
  ·simp;omega
  ·have: ∀(l:List Bytes) (f:List (List Bytes)),f.length≤1025→(l.foldl (fun f x=>if f.length≤1024∧x∉path∧kS v (path++[x]) t=true then jA v t n (path++[x]) f else f) f).length≤1025:=by
    intro l
    induction l with
    | nil=>intro f h;exact h
    | cons x l ih=>
     intro f h;rw [List.foldl_cons];refine ih _ ?_;split
     ·rename_i hc;exact Ld v t n _ f hc.1
     ·exact h
   exact this _ f (by omega)
theorem QB (v:bg)(t:Bytes)(n:Nat)(path:List Bytes)(f:List (List Bytes))(x:Bytes)(h:f.length≤1025):(CE v t n path f x).length≤1025:=by
 unfold CE;split
 ·rename_i hc
  cases n with
  | zero=>exact h
  | succ n=>exact Ld v t n _ f hc.1
 ·exact h
theorem ES (v:bg)(t:Bytes)(n:Nat)(path:List Bytes)(f:List (List Bytes))(h:f.length≤1025): ∀k,(wX v t n path f k).length≤1025
 | 0=>h
 | k+1=>by
  cases e:(dM v (lastT path))[k]? with
  | none=>
   have:wX v t n path f (k+1)=wX v t n path f k:=by rw [wX,wX,zM,e];simp
   rw [this];exact ES v t n path f h k
  | some x=>rw [Dx e];exact QB v t n path _ x (ES v t n path f h k)
end
end Go.Toll
end
section
namespace Go.Toll
open Go Go.Abs
structure je where
 to:Int
 min:Int
 max:Int
 deriving DecidableEq
def bA (r:je):List AV:=[.int .i64 r.to,.int .i64 r.min,.int .i64 r.max]
@[simp] theorem Rp (r:je):(bA r).length=3:=rfl
@[simp] theorem Ab (r:je):bA r=[.int .i64 r.to,.int .i64 r.min,.int .i64 r.max]:=rfl
def gJ (n:Nat):AV:= .int .i64 (n:Int)
def aV (v:bg)(s:Bytes):Nat:=(bu v).idxOf s
def aX (v:bg)(x:Lk):je:=⟨aV v x.dst,x.min,x.max⟩
def rowOf (v:bg)(s:Bytes):List je:=(jJ v s).map (aX v)
def tV (v:bg):List (List je):=(bu v).map (rowOf v)
def sW:Nat→List Bytes→List (Bytes×Nat)
 | _,[]=>[]
 | i,s::l=>(s,i)::sW (i+1) l
def Gg (v:bg):List (Bytes×Nat):=sW 0 (bu v)
def aS (v:bg)(m:Nat):List AV:=[.ro ((bu v).map aR),.map m,.ro ((tV v).map fun r=>[.ro (r.map bA)])]
theorem O8: ∀(l:List Bytes) (i:Nat),(sW i l).length=l.length
 | [],_=>rfl
 | s::l,i=>by rw [sW,List.length_cons,O8 l (i+1)];rfl
theorem DD (t:Bytes): ∀(l:List Bytes) (i:Nat),gH (sW i l) t=if t∈l then some (i+l.idxOf t) else none
 | [],i=>rfl
 | s::l,i=>by
  have ih:=DD t l (i+1);by_cases h:t=s
  ·subst h;simp [sW,gH]
  ·have:gH (sW i (s::l)) t=gH (sW (i+1) l) t:=by simp [sW,gH,h]
   rw [this,ih];by_cases hm:t∈l
   ·rw [if_pos hm,if_pos (List.mem_cons_of_mem _ hm),List.idxOf_cons];rw [show (s==t)=false by simp;exact fun e=>h e.symm];simp;omega
   ·rw [if_neg hm,if_neg (by rw [List.mem_cons];rintro (e | e);exact h e;exact hm e)]
theorem Ib {α:Type}: ∀(m:List (Bytes×α)) (t:Bytes) (x:α),t∉m.map (·.1)→pF m t x=m++[(t,x)]
 | [],t,x,_=>rfl
 | p::m,t,x,h=>by
  rw [List.map_cons,List.mem_cons,not_or] at h;rw [pF,if_neg (by simpa using h.1),Ib m t x h.2];rfl
theorem DX: ∀(l:List Bytes) (i:Nat),(sW i l).map (·.1)=l
 | [],_=>rfl
 | s::l,i=>by rw [sW,List.map_cons,DX l (i+1)]
theorem DY (s:Bytes): ∀(l:List Bytes) (i:Nat),sW i (l++[s])=sW i l++[(s,i+l.length)]
 | [],i=>rfl
 | t::l,i=>by
  rw [List.cons_append,sW,DY s l (i+1),sW];simp;omega
section
variable {v : bg}
theorem Av (v:bg)(t:Bytes):gH (Gg v) t=if aG v.pts t=true then some (aV v t) else none:=by
 rw [Gg,DD,aV];by_cases h:t∈bu v
 ·rw [if_pos h,if_pos ((rC v t).1 h),Nat.zero_add]
 ·rw [if_neg h,if_neg (fun h'=>h ((rC v t).2 h'))]
theorem dD {t:Bytes} (h:aG v.pts t=true):aV v t<(bu v).length:=List.idxOf_lt_length_iff.2 ((rC v t).2 h)
theorem fD {t:Bytes} (h:aG v.pts t=true):(bu v)[aV v t]? =some t:=by
 have:=dD h;rw [zB this];exact congrArg some (List.getElem_idxOf this)
theorem LD (ok:aU v) {i:Nat} {s:Bytes} (h:(bu v)[i]? =some s):aG v.pts s=true∧aV v s=i:=by
 have hp:=(rC v s).1 (zF h);exact⟨hp,xk ok.nodup (fD hp) h⟩
theorem gu (ok:aU v) {s t:Bytes} (hs:aG v.pts s=true)(ht:aG v.pts t=true)(h:aV v s=aV v t):s=t:=by
 have h1:=fD hs;rw [h,fD ht] at h1;exact (Option.some.inj h1).symm
theorem QX (ok:aU v) {s t:Bytes} (hs:aG v.pts s=true)(ht:aG v.pts t=true):aV v s≤aV v t↔s≤t:=by
 have key: ∀ {s t:Bytes},aG v.pts s=true→aG v.pts t=true→aV v s≤aV v t→s≤t:=by
  intro s t hs ht h;rcases Nat.lt_or_eq_of_le h with h | h
  ·have h1:=fD hs;have h2:=fD ht;obtain⟨b1,c1⟩:=zA.1 h1;obtain⟨b2,c2⟩:=zA.1 h2;have:=List.pairwise_iff_getElem.1 (Pp v) _ _ b1 b2 h;rw [c1,c2] at this;exact of_decide_eq_true this
  ·rw [gu ok hs ht h];exact List.le_refl t
 refine⟨key hs ht,fun h=> ?_⟩;rcases Nat.le_total (aV v s) (aV v t) with h1 | h1
 ·exact h1
 ·have:=List.le_antisymm h (key ht hs h1);subst this;exact Nat.le_refl _
theorem oF (v:bg):(tV v).length=(bu v).length:=by simp [tV]
theorem lW {i:Nat} {s:Bytes} (h:(bu v)[i]? =some s):(tV v)[i]? =some (rowOf v s):=by rw [tV,List.getElem?_map,h];rfl
theorem oD (v:bg)(s:Bytes):(rowOf v s).length≤v.lks.length:=by rw [rowOf,List.length_map];exact MM v s
theorem xw {v:bg} {s:Bytes} {k:Nat} {r:je} (h:(rowOf v s)[k]? =some r): ∃x,(jJ v s)[k]? =some x∧r=aX v x∧x∈v.lks∧x.src=s:=by
 rw [rowOf,List.getElem?_map,Option.map_eq_some_iff] at h;obtain⟨x,h1,h2⟩:=h;exact⟨x,h1,h2.symm,(gW v s x).1 (zF h1)⟩
theorem Kj (ok:aU v)(s:Bytes):((v.lks.filter fun x=>decide (x.src=s)).map (aX v)).mergeSort (fun a b=>decide (a.to≤b.to))=rowOf v s:=by
 rw [rowOf,jJ,←List.map_mergeSort (r:=fun x y:Lk=>decide (x.dst≤y.dst)) (s:=fun a b:je=>decide (a.to≤b.to)) (f:=aX v)];intro a ha b hb;have h1:=(ok.ends a (List.mem_filter.1 ha).1).2.1;have h2:=(ok.ends b (List.mem_filter.1 hb).1).2.1;have:=QX ok h1 h2;exact decide_eq_decide.2 (this.symm.trans (by simp [aX]))
theorem Nj (ok:aU v)(s:Bytes):(((v.lks.filter fun x=>decide (x.src=s)).map (aX v)).map (·.to)).Nodup:=by
 rw [List.map_map];have h:=ok.dstnd s;have h2:((v.lks.filter fun x=>decide (x.src=s)).map (·.dst)).Nodup:=(((List.mergeSort_perm _ _).map _).nodup_iff).1 h;refine List.pairwise_map.2 ?_;have h3:=List.pairwise_map.1 h2;refine List.Pairwise.imp_of_mem ?_ h3;intro a b ha hb hne e;have h1:=(ok.ends a (List.mem_filter.1 ha).1).2.1;have h2:=(ok.ends b (List.mem_filter.1 hb).1).2.1;simp only [Function.comp,aX] at e;exact hne (gu ok h1 h2 (by omega))
def upTo {α:Type} (l:List α)(i:Nat):List α:=l.take i
theorem NK {α:Type} {l:List α} {i:Nat} {x:α} (h:l[i]? =some x):upTo l (i+1)=upTo l i++[x]:=by rw [upTo,zM,h];rfl
theorem P7 {α:Type} {l:List α} {i:Nat} (h:l.length≤i):upTo l i=l:=zG h
theorem BI {v:bg} {s:Bytes} (ok:aU v) {k:Nat} {r:je} (h:(rowOf v s)[k]? =some r): ∃x,(dM v s)[k]? =some x.dst∧r=aX v x∧x∈v.lks∧x.src=s∧(bu v)[aV v x.dst]? =some x.dst∧aG v.pts x.dst=true:=by
 obtain⟨x,h1,h2,h3,h4⟩:=xw h;have h5:=(ok.ends x h3).2.1;exact⟨x,by rw [dM,List.getElem?_map,h1];rfl,h2,h3,h4,fD h5,h5⟩
theorem tT (v:bg)(s:Bytes):(rowOf v s).length=(dM v s).length:=by simp [rowOf,dM]
theorem Q4 (ok:aU v) {s t:Bytes} (ht:aG v.pts t=true):(kT (fun r:je=>decide (r.to=aV v t)) (rowOf v s)= -1∧lkOf v s t=none)∨
  ∃(k:Nat) (x:Lk),kT (fun r:je=>decide (r.to=aV v t)) (rowOf v s)=(k:Int)∧(rowOf v s)[k]? =some (aX v x)∧lkOf v s t=some x:=by
 rcases lT (fun r:je=>decide (r.to=aV v t)) (rowOf v s) with⟨h1,h2⟩ | ⟨k,r,h1,h2,h3⟩
 ·left
  refine⟨h1,?_⟩
  cases e:lkOf v s t with
  | none=>rfl
  | some x=>
   obtain⟨m,e1,e2⟩:=fB e;have:=List.find?_eq_none.1 h2 (aX v x) (List.mem_map_of_mem ((gW v s x).2 ⟨m,e1⟩));simp [aX,e2] at this
 ·right
  obtain⟨x,x1,rfl,x3,x4,x5,x6⟩:=BI ok h2;have hp:=List.find?_some h3;have:aV v x.dst=aV v t:=by have:=of_decide_eq_true hp;simp only [aX] at this;omega
  have e:=gu ok x6 ht this;refine⟨k,x,h1,h2,?_⟩;rw [←x4,←e];exact ok.lkOf x3
def CV (n:bg)(i:Nat):List Bytes:=(n.pts.take i).map (·.name)
theorem M8 {n:bg} {i:Nat} {p:Pt} (h:n.pts[i]? =some p):CV n (i+1)=CV n i++[p.name]:=by rw [CV,zM,h];simp [CV]
theorem Pk (n:bg):CV n n.pts.length=n.pts.map (·.name):=by rw [CV,List.take_length]
theorem Pm (n:bg)(i:Nat):(CV n i).length≤i:=by simp [CV];omega
def CS (v:bg)(i:Nat):List (AV×AV):=sM gJ (sW 0 ((bu v).take i))
theorem O7 (v:bg):CS v (bu v).length=sM gJ (Gg v):=by rw [CS,List.take_length];rfl
theorem MZ (ok:aU v) {i:Nat} {s:Bytes} (h:(bu v)[i]? =some s):ui (CS v i) (.str s) (.int .i64 i)=CS v (i+1):=by
 have hlt:=aK h;have hnot:s∉(bu v).take i:=fun hm=>by
  obtain⟨j,hj⟩:=List.getElem?_of_mem hm;have hj2:=aK hj;rw [List.length_take] at hj2;rw [List.getElem?_take_of_lt (by omega)] at hj;have:=xk ok.nodup hj h;omega
 rw [CS,CS,zM,h,show AV.int .i64 (i:Int)=gJ i from rfl,vv,Ib _ _ _ (by rw [DX];exact hnot)];rw [Option.toList_some,DY,List.length_take,Nat.min_eq_left (by omega),Nat.zero_add]
def fq (v:bg)(ls:List Lk):List (List je):=(bu v).map fun s=>(ls.filter fun x=>decide (x.src=s)).map (aX v)
theorem Ii (v:bg):fq v []=List.replicate (bu v).length []:=by
 exact List.eq_replicate_iff.2 ⟨by simp [fq],fun b hb=>by simp [fq] at hb;exact hb.2⟩
theorem FI (ok:aU v)(ls:List Lk) {x:Lk} (hx:aG v.pts x.src=true):fq v (ls++[x])=(fq v ls).set (aV v x.src) ((((ls.filter fun y=>decide (y.src=x.src)).map (aX v)))++[aX v x]):=by
 refine List.ext_getElem? fun i=> ?_;rw [List.getElem?_set];by_cases e:aV v x.src=i
 ·subst e;rw [if_pos rfl,if_pos (by rw [fq,List.length_map];exact dD hx),fq,List.getElem?_map,fD hx];simp
 ·rw [if_neg e,fq,fq,List.getElem?_map,List.getElem?_map]
  cases h:(bu v)[i]? with
  | none=>rfl
  | some s=>
   simp only [Option.map_some,List.filter_append,List.map_append];have: ¬x.src=s:=by rintro rfl;exact e (LD ok h).2
   simp [this]
theorem rD {ls:List Lk} {s:Bytes} {i:Nat} (h:(bu v)[i]? =some s):(fq v ls)[i]? =some ((ls.filter fun x=>decide (x.src=s)).map (aX v)):=by rw [fq,List.getElem?_map,h];rfl
def yM (v:bg)(j:Nat):List (List (List AV)):=(fq v (v.lks.take j)).map fun r=>r.map bA
def Pv (v:bg)(j:Nat)(s:Bytes):List (List AV):=(((v.lks.take j).filter fun x=>decide (x.src=s)).map (aX v)).map bA
theorem Ee (v:bg):yM v 0=List.replicate (bu v).length []:=by rw [yM,List.take_zero,Ii,List.map_replicate];rfl
theorem Px (v:bg):yM v v.lks.length=(fq v v.lks).map fun r=>r.map bA:=by rw [yM,List.take_length]
theorem Py {j:Nat} {s:Bytes} (h:aG v.pts s=true):(yM v j)[aV v s]? =some (Pv v j s):=by rw [yM,List.getElem?_map,rD (fD h)];rfl
theorem Ed (ok:aU v) {j:Nat} {x:Lk} (h:v.lks[j]? =some x):yM v (j+1)=(yM v j).set (aV v x.src) (Pv v j x.src++[bA (aX v x)]):=by
 rw [yM,zM,h,Option.toList_some,FI ok _ (ok.ends x (zF h)).1,List.map_set,List.map_append];rfl
theorem Pw (v:bg)(j:Nat)(s:Bytes):(Pv v j s).length≤v.lks.length:=by
 rw [Pv,List.length_map,List.length_map];exact Nat.le_trans (List.length_filter_le _ _) (by simp;omega)
def jB (v:bg)(i:Nat):List (List je):=(tV v).take i++(fq v v.lks).drop i
theorem Fp (v:bg):jB v 0=fq v v.lks:=by simp [jB]
theorem Hz (v:bg):jB v (bu v).length=tV v:=by
 rw [jB,zG (by rw [oF];exact Nat.le_refl _),List.drop_of_length_le (by rw [fq,List.length_map];exact Nat.le_refl _),List.append_nil]
theorem HV {s:Bytes} {i:Nat} (h:(bu v)[i]? =some s):(jB v i)[i]? =some ((v.lks.filter fun x=>decide (x.src=s)).map (aX v)):=by
 have hl:=(zA.1 h).1;rw [jB,zD (by rw [List.length_take,oF];omega),List.length_take,oF,Nat.min_eq_left (by omega),Nat.sub_self,List.getElem?_drop,Nat.add_zero,rD h]
def yI (v:bg)(i:Nat):List (List (List AV)):=(jB v i).map fun r=>r.map bA
def QZ (v:bg)(s:Bytes):List je:=(v.lks.filter fun x=>decide (x.src=s)).map (aX v)
theorem MU (v:bg):yI v 0=yM v v.lks.length:=by rw [yI,Fp,Px]
theorem OX (v:bg):yI v (bu v).length=(tV v).map fun r=>r.map bA:=by rw [yI,Hz]
theorem OY {s:Bytes} {i:Nat} (h:(bu v)[i]? =some s):(yI v i)[i]? =some ((QZ v s).map bA):=by rw [yI,List.getElem?_map,HV h];rfl
theorem HY {s:Bytes} {i:Nat} (h:(bu v)[i]? =some s):(jB v i).set i (rowOf v s)=jB v (i+1):=by
 have hl:=(zA.1 h).1;have hr:=rD (ls:=v.lks) h;rw [jB,jB,List.set_append,if_neg (by rw [List.length_take,oF];omega),List.length_take,oF,Nat.min_eq_left (by omega),Nat.sub_self];obtain⟨hrl,hre⟩:=zA.1 hr;rw [List.drop_eq_getElem_cons hrl,List.set_cons_zero,zM,lW h];simp
theorem MS {s:Bytes} {i:Nat} (h:(bu v)[i]? =some s):(yI v i).set i ((rowOf v s).map bA)=yI v (i+1):=by
 rw [yI,yI,←HY h,List.map_set]
end
end Go.Toll
end
section
namespace Go.Toll
open Go Go.Abs
section
variable {v : bg} {a : Bytes} {sn : List Bool} {Q : List Bytes}
theorem LA (ok:aU v) {u d:Bytes} (h:d∈dM v u):aG v.pts d=true:=by
 obtain⟨x,hx,_,rfl⟩:=(om v u d).1 h;exact (ok.ends x hx).2.1
end
end Go.Toll
end
section
namespace Go.Toll
open Go Go.Abs
structure TC where
 time:Int
 pts:Int
 deriving DecidableEq
def Cq:TC:=⟨0,-1⟩
def oM (c:TC):List AV:=[.int .i64 c.time,.int .i64 c.pts]
@[simp] theorem VI (c:TC):oM c=[.int .i64 c.time,.int .i64 c.pts]:=rfl
def tC (c d:TC):Bool:=decide (c.time<d.time) || (decide (c.time=d.time) && decide (c.pts<d.pts))
def dK (v:bg)(L:List TC)(s:Bytes):TC:=L.getD (aV v s) Cq
def iI (c:TC)(x:Lk):TC:=⟨c.time+x.min,c.pts+1⟩
def nH (L:List TC):Nat:=L.countP fun c=>decide (0≤c.pts)
def wC (c:TC):Nat:=if c.pts<0 then 137438953472*274877906944+274877906944 else c.time.toNat* 274877906944+c.pts.toNat
def CR (L:List TC):Nat:=(L.map wC).sum
structure jm (v:bg)(b:Bytes)(L:List TC):Prop where
 len:L.length=(bu v).length
 root:dK v L b=⟨0,0⟩
 walk: ∀s,aG v.pts s=true→0≤(dK v L s).pts→ ∃l t,wk v s l=some t∧t.1=(dK v L s).time∧(l.length:Int)=(dK v L s).pts∧dJ s l=b
 bnd: ∀s,aG v.pts s=true→0≤(dK v L s).pts→(dK v L s).time≤2147483648*(nH L:Int)
def Mj (v:bg)(L:List TC)(x:Lk):Prop:=(dK v L x.dst).pts<0∨(0≤(dK v L x.src).pts∧tC (iI (dK v L x.dst) x) (dK v L x.src)=false)
section
variable {v : bg} {b : Bytes} {L : List TC}
theorem sN {s:Bytes} (hl:L.length=(bu v).length)(hs:aG v.pts s=true):L[aV v s]? =some (dK v L s):=by
 have h:aV v s<L.length:=by rw [hl];exact dD hs
 rw [dK,List.getD_eq_getElem?_getD,zB h];rfl
theorem sO (ok:aU v) {s t:Bytes} (hl:L.length=(bu v).length)(hs:aG v.pts s=true)(ht:aG v.pts t=true)(c:TC):dK v (L.set (aV v s) c) t=if t=s then c else dK v L t:=by
 rw [dK,dK,List.getD_eq_getElem?_getD,List.getD_eq_getElem?_getD];by_cases e:t=s
 ·subst e;rw [zI (by rw [hl];exact dD ht),if_pos rfl];rfl
 ·rw [zJ (fun h=>e (gu ok hs ht h).symm),if_neg e]
theorem zZ {c d:TC}: ∀ {L:List TC} {i:Nat},L[i]? =some d→0≤c.pts→nH (L.set i c)=nH L+if d.pts<0 then 1 else 0
 | [],i,h,_=>by simp at h
 | e::L,0,h,hc=>by
  simp at h;subst h
  simp only [nH,List.set_cons_zero,List.countP_cons];by_cases h:e.pts<0
  ·have: ¬0≤e.pts:=by omega
   simp [hc,h,this]
  ·have:0≤e.pts:=by omega
   simp [hc,h,this]
 | e::L,i+1,h,hc=>by
  have:=zZ (L:=L) (i:=i) (d:=d) (c:=c) (by simpa using h) hc;simp only [nH,List.set_cons_succ,List.countP_cons] at this ⊢;omega
theorem Eh (L:List TC):nH L≤L.length:=List.countP_le_length
theorem Lx {c d:TC}: ∀ {L:List TC} {i:Nat},L[i]? =some d→wC c<wC d→CR (L.set i c)<CR L
 | [],i,h,_=>by simp at h
 | e::L,0,h,hc=>by
  simp at h;subst h
  simp only [CR,List.set_cons_zero,List.map_cons,List.sum_cons];omega
 | e::L,i+1,h,hc=>by
  have:=Lx (L:=L) (i:=i) (by simpa using h) hc;simp only [CR,List.set_cons_succ,List.map_cons,List.sum_cons] at this ⊢;omega
theorem jm.rng (ok:aU v)(c:jm v b L) {s:Bytes} (hs:aG v.pts s=true)(h:0≤(dK v L s).pts):(dK v L s).pts≤(dK v L s).time∧(dK v L s).time≤137438953472:=by
 obtain⟨l,t,h1,h2,h3,_⟩:=c.walk s hs h;have h4:=uW ok h1;have h5:=c.bnd s hs h;have h6:=Eh L;have h7:=c.len;have h8:=kJ v;have h9:=ok.plen;omega
theorem jm.start (ok:aU v)(hb:aG v.pts b=true):jm v b ((List.replicate (bu v).length Cq).set (aV v b) ⟨0,0⟩):=by
 have hl:(List.replicate (bu v).length Cq).length=(bu v).length:=by simp
 have h0: ∀t,dK v (List.replicate (bu v).length Cq) t=Cq:=fun t=>by
  rw [dK,List.getD_eq_getElem?_getD,List.getElem?_replicate];split <;> rfl
 have hr:dK v ((List.replicate (bu v).length Cq).set (aV v b) ⟨0,0⟩) b=⟨0,0⟩:=by rw [sO ok hl hb hb,if_pos rfl]
 refine⟨by simp,hr,fun s hs h=> ?_,fun s hs h=> ?_⟩
 ·rw [sO ok hl hb hs,h0] at h ⊢;split at h
  ·rename_i e;rw [if_pos e];exact⟨[],(0,0),rfl,rfl,rfl,e⟩
  ·simp [Cq] at h
 ·rw [sO ok hl hb hs,h0] at h ⊢;split at h
  ·rename_i e;rw [if_pos e];show (0:Int)≤_;omega
  ·simp [Cq] at h
theorem uk {c d:TC} (h:tC c d=true):c.time<d.time∨(c.time=d.time∧c.pts<d.pts):=by simpa [tC] using h
theorem Gx {c d:TC} (h:tC c d=false):d.time<c.time∨(c.time=d.time∧d.pts≤c.pts):=by
 simp [tC] at h;obtain⟨h1,h2⟩:=h;by_cases e:c.time=d.time
 ·exact .inr ⟨e,h2 e⟩
 ·exact .inl (by omega)
theorem jm.step (ok:aU v)(c:jm v b L) {x:Lk} (hx:x∈v.lks)(hd:0≤(dK v L x.dst).pts)(hb:aG v.pts b=true)(hi:(dK v L x.src).pts<0∨tC (iI (dK v L x.dst) x) (dK v L x.src)=true):
  jm v b (L.set (aV v x.src) (iI (dK v L x.dst) x))∧CR (L.set (aV v x.src) (iI (dK v L x.dst) x))<CR L:=by
 obtain⟨p1,p2,p3⟩:=ok.ends x hx;obtain⟨r1,r2,r3⟩:=ok.rng x hx;obtain⟨q1,q2⟩:=c.rng ok p2 hd;have hbd:=c.bnd x.dst p2 hd;have hg:=sN c.len p1;have hc:=zZ (c:=iI (dK v L x.dst) x) hg (by simp only [iI];omega);have hmono:nH L≤nH (L.set (aV v x.src) (iI (dK v L x.dst) x)):=by rw [hc];omega
 have hcl:nH (L.set (aV v x.src) (iI (dK v L x.dst) x))≤64:=by
  have:=Eh (L.set (aV v x.src) (iI (dK v L x.dst) x));rw [List.length_set,c.len,kJ] at this;have:=ok.plen;omega
 have hnew:(dK v L x.dst).time+x.min≤2147483648*(nH (L.set (aV v x.src) (iI (dK v L x.dst) x)):Int):=by
  rcases hi with hi | hi
  ·rw [hc,if_pos hi];push_cast;omega
  ·by_cases hu:(dK v L x.src).pts<0
   ·rw [hc,if_pos hu];push_cast;omega
   ·have h1:=uk hi;have h2:=c.bnd x.src p1 (by omega);simp only [iI] at h1;omega
 refine⟨⟨by rw [List.length_set];exact c.len,?_,fun s hs h=> ?_,fun s hs h=> ?_⟩,Lx hg ?_⟩
 ·rw [sO ok c.len p1 hb];split
  ·rename_i e
   exfalso
   rw [←e,c.root] at hi;rcases hi with hi | hi
   ·simp at hi
   ·have:=uk hi;simp only [iI] at this;omega
  ·exact c.root
 ·rw [sO ok c.len p1 hs] at h ⊢;split at h
  ·rename_i e;subst e;rw [if_pos rfl];obtain⟨l,t,w1,w2,w3,w4⟩:=c.walk x.dst p2 hd;exact⟨x.dst::l,_,dN.2 ⟨x,t,ok.lkOf hx,w1,rfl⟩,by simp only [iI];omega,by simp only [iI,List.length_cons];push_cast;omega,w4⟩
  ·rename_i e;rw [if_neg e];exact c.walk s hs h
 ·rw [sO ok c.len p1 hs] at h ⊢;split at h
  ·rename_i e;rw [if_pos e];exact hnew
  ·rename_i e;rw [if_neg e];have:=c.bnd s hs h;omega
 ·have hw:wC (iI (dK v L x.dst) x)=((dK v L x.dst).time+x.min).toNat* 274877906944+((dK v L x.dst).pts+1).toNat:=by
   rw [wC,if_neg (by simp only [iI];omega)];rfl
  by_cases hu:(dK v L x.src).pts<0
  ·rw [hw,wC,if_pos hu];omega
  ·have hi:tC (iI (dK v L x.dst) x) (dK v L x.src)=true:=by
    rcases hi with hi | hi
    ·exact absurd hi hu
    ·exact hi
   obtain⟨s1,s2⟩:=c.rng ok p1 (by omega);rw [hw,wC,if_neg hu];have h1:=uk hi;simp only [iI] at h1;rcases h1 with h1 | ⟨h1,h2⟩
   ·have:((dK v L x.dst).time+x.min).toNat+1≤(dK v L x.src).time.toNat:=by omega
    omega
   ·rw [h1];omega
structure Qk (v:bg)(b:Bytes)(L:List TC):Prop where
 ok:jm v b L
 opt: ∀l s t,aG v.pts s=true→wk v s l=some t→dJ s l=b→0≤(dK v L s).pts∧((dK v L s).time<t.1∨((dK v L s).time=t.1∧(dK v L s).pts≤l.length))
theorem jm.opt (ok:aU v)(c:jm v b L)(hf: ∀x∈v.lks,Mj v L x):Qk v b L:=by
 refine⟨c,fun l=> ?_⟩
 induction l with
 | nil=>
  intro s t hs h he;obtain rfl:=Option.some.inj h;have:s=b:=he;subst this;rw [c.root];simp
 | cons d l ih=>
  intro s t hs h he;obtain⟨x,u,h1,h2,rfl⟩:=dN.1 h;obtain⟨m,rfl,rfl⟩:=fB h1;obtain⟨i1,i2⟩:=ih x.dst u (ok.ends x m).2.1 h2 he;rcases hf x m with hc | ⟨hc1,hc2⟩
  ·omega
  ·refine⟨hc1,?_⟩;have:=Gx hc2;simp only [iI] at this;simp only [List.length_cons]
   push_cast
   omega
structure Cs (v:bg)(L0:List TC)(ch:Bool)(L:List TC)(i:Nat):Prop where
 still:ch=false→CR L=CR L0∧ ∀x∈v.lks,aV v x.src<i→Mj v L x
 less:ch=true→CR L<CR L0
structure Ct (v:bg)(L0:List TC)(ch:Bool)(L:List TC)(s:Bytes)(k:Nat):Prop where
 still:ch=false→CR L=CR L0∧(∀x∈v.lks,aV v x.src<aV v s→Mj v L x)∧ ∀j y,j<k→(jJ v s)[j]? =some y→Mj v L y
 less:ch=true→CR L<CR L0
theorem Cs.start (v:bg)(L:List TC):Cs v L false L 0:=⟨fun _=>⟨rfl,fun x _ h=>by omega⟩,by simp⟩
theorem Cs.open {v:bg} {L0 L:List TC} {ch:Bool} {s:Bytes} (w:Cs v L0 ch L (aV v s)):Ct v L0 ch L s 0:=⟨fun c=>⟨(w.still c).1,(w.still c).2,fun j y hj=>by omega⟩,w.less⟩
theorem Ct.close {v:bg} (ok:aU v) {L0 L:List TC} {ch:Bool} {s:Bytes} {k:Nat} (hs:aG v.pts s=true)(w:Ct v L0 ch L s k)(hk:(jJ v s).length≤k):Cs v L0 ch L (aV v s+1):=by
 refine⟨fun c=>⟨(w.still c).1,fun x hx hxi=> ?_⟩,w.less⟩;rcases zN (aV v x.src) (aV v s) with h1 | h1
 ·exact (w.still c).2.1 x hx h1
 ·have:x.src=s:=gu ok (ok.ends x hx).1 hs (by omega);obtain⟨j,hj⟩:=List.getElem?_of_mem ((gW v s x).2 ⟨hx,this⟩);exact (w.still c).2.2 j x (by have:=aK hj;omega) hj
theorem Ct.keep {v:bg} {L0 L:List TC} {ch:Bool} {s:Bytes} {k:Nat} {x:Lk} (w:Ct v L0 ch L s k)(hx:(jJ v s)[k]? =some x)(hf:Mj v L x):Ct v L0 ch L s (k+1):=by
 refine⟨fun c=>⟨(w.still c).1,(w.still c).2.1,fun j y hj hy=> ?_⟩,w.less⟩;rcases zN j k with h1 | h1
 ·exact (w.still c).2.2 j y h1 hy
 ·obtain rfl:j=k:=by omega
  rw [hx] at hy;obtain rfl:=Option.some.inj hy;exact hf
theorem Ct.turn {v:bg} {L0 L L':List TC} {ch:Bool} {s:Bytes} {k k':Nat} (w:Ct v L0 ch L s k)(h:CR L'<CR L):Ct v L0 true L' s k':=by
 refine⟨by simp,fun _=> ?_⟩
 cases ch with
 | false=>rw [←(w.still rfl).1];exact h
 | true=>exact Nat.lt_trans h (w.less rfl)
theorem Cs.down {v:bg} {L0 L:List TC} {ch:Bool} {i:Nat} (w:Cs v L0 ch L i):2*CR L+ch.toNat<2*CR L0+1:=by
 cases ch with
 | false=>have:=(w.still rfl).1;simp;omega
 | true=>have:=w.less rfl;simp;omega
structure VR (v:bg)(ch:Bool)(L:List TC)(M:Nat):Prop where
 fix:ch=false→ ∀x∈v.lks,Mj v L x
 mu:M=2*CR L+ch.toNat
def mg (n i:Nat):List TC:=List.replicate i Cq++List.replicate (n - i) ⟨0,0⟩
theorem JH (n:Nat):mg n 0=List.replicate n ⟨0,0⟩:=by simp [mg]
theorem Mt (n:Nat):mg n n=List.replicate n Cq:=by simp [mg]
theorem Mw {n i:Nat} (h:i≤n):(mg n i).length=n:=by simp [mg];omega
theorem Mv {n i:Nat} (h:i<n):(mg n i)[i]? =some ⟨0,0⟩:=by
 rw [mg,zD (by simp),List.length_replicate,Nat.sub_self,show n - i=(n - (i+1))+1 by omega,List.replicate_succ];rfl
theorem Mx {n i:Nat} (h:i<n):(mg n i).set i Cq=mg n (i+1):=by
 rw [mg,mg,List.set_append_right _ _ (by simp),List.length_replicate,Nat.sub_self,show n - i=(n - (i+1))+1 by omega,List.replicate_succ,List.set_cons_zero,show List.replicate (i+1) Cq=List.replicate i Cq++[Cq] from List.replicate_succ',zK];rfl
def ru (v:bg)(L:List TC)(x:Lk):Prop:=0≤(dK v L x.dst).pts∧iI (dK v L x.dst) x=dK v L x.src
theorem Qk.tight (ok:aU v)(c:Qk v b L) {x:Lk} (hx:x∈v.lks) {l:List Bytes} {t:Int×Int} (h:wk v x.dst l=some t)(he:dJ x.dst l=b)(h1:x.min+t.1=(dK v L x.src).time)(h2:(l.length:Int)+1=(dK v L x.src).pts):ru v L x:=by
 obtain⟨p1,p2,p3⟩:=ok.ends x hx;obtain⟨o1,o2⟩:=c.opt l x.dst t p2 h he;obtain⟨l',t',w1,w2,w3,w4⟩:=c.ok.walk x.dst p2 o1;obtain⟨o3,o4⟩:=c.opt (x.dst::l') x.src _ p1 (dN.2 ⟨x,t',ok.lkOf hx,w1,rfl⟩) w4;simp only [List.length_cons] at o4
 push_cast at o4
 refine⟨o1,?_⟩;have e1:(iI (dK v L x.dst) x).time=(dK v L x.src).time:=by simp only [iI];omega
 have e2:(iI (dK v L x.dst) x).pts=(dK v L x.src).pts:=by simp only [iI];omega
 cases h5:iI (dK v L x.dst) x with
 | mk p q=>cases h6:dK v L x.src with
  | mk p' q'=>rw [h5,h6] at e1 e2;simp only at e1 e2;rw [e1,e2]
structure zq (v:bg)(a b:Bytes)(L:List TC)(x:List Bytes)(u:Bytes):Prop where
 ends:dJ a x=u
 pt:aG v.pts u=true
 set:0≤(dK v L u).pts
 walk: ∃t,wk v a x=some t∧t.1+(dK v L u).time=(dK v L a).time
 len:(x.length:Int)+(dK v L u).pts=(dK v L a).pts
 first: ∀l s,wk v a l=some s→dJ a l=b→s.1=(dK v L a).time→(l.length:Int)=(dK v L a).pts→d9 x (l.take x.length)≤0
theorem zq.start {a:Bytes} (ha:aG v.pts a=true)(h:0≤(dK v L a).pts):zq v a b L [] a:=
 ⟨rfl,ha,h,⟨(0,0),rfl,by simp⟩,by simp,fun l s _ _ _ _=>by simp [d9]⟩
theorem zq.exists (ok:aU v)(c:Qk v b L) {a u:Bytes} {x:List Bytes} (w:zq v a b L x u)(hne:u≠b): ∃y∈v.lks,y.src=u∧ru v L y:=by
 obtain⟨l,t,w1,w2,w3,w4⟩:=c.ok.walk u w.pt w.set
 cases l with
 | nil=>exact absurd w4 hne
 | cons d l=>
  obtain⟨y,t',h1,h2,rfl⟩:=dN.1 w1;obtain⟨m,rfl,rfl⟩:=fB h1;exact⟨y,m,rfl,c.tight ok m h2 w4 w2 (by simp only [List.length_cons] at w3;push_cast at w3;exact w3)⟩
theorem zq.step (ok:aU v)(c:Qk v b L) {a u:Bytes} {x:List Bytes} (w:zq v a b L x u) {k:Nat} {y:Lk} (hk:(jJ v u)[k]? =some y)(hy:ru v L y)(hfirst: ∀j z,j<k→(jJ v u)[j]? =some z→ ¬ru v L z):
  zq v a b L (x++[y.dst]) y.dst∧(dK v L y.dst).pts+1=(dK v L u).pts:=by
 obtain⟨hym,hys⟩:=(gW v u y).1 (zF hk);obtain⟨p1,p2,p3⟩:=ok.ends y hym;obtain⟨o1,o2⟩:=hy;rw [hys] at o2;have e1:(dK v L y.dst).time+y.min=(dK v L u).time:=congrArg TC.time o2;have e2:(dK v L y.dst).pts+1=(dK v L u).pts:=congrArg TC.pts o2;obtain⟨t,t1,t2⟩:=w.walk;have hlen:=w.len;refine⟨⟨eO _ _ _,p2,o1,⟨_,kY.2 ⟨t,(y.min+0,y.max+0),t1,?_,rfl⟩,?_⟩,?_,?_⟩,e2⟩
 ·rw [w.ends,←hys];exact dN.2 ⟨y,(0,0),ok.lkOf hym,rfl,rfl⟩
 ·show t.1+(y.min+0)+_=_;omega
 ·simp;omega
 ·intro l s h he hs hl;have hf:=w.first l s h he hs hl;have hll:x.length<l.length:=by
   have:=c.ok.rng ok p2 o1;omega
  obtain⟨e,hle,_⟩: ∃e,l[x.length]? =some e∧True:=⟨_,zB hll,trivial⟩;rw [List.length_append,List.length_singleton,zM,hle,Option.toList_some,Bp _ _ (by simp;omega)];split
  ·rename_i hz;have hxe:x=l.take x.length:=sG.1 hz;rw [Ph,K5];have hsplit:l=x++e::l.drop (x.length+1):=by
    conv=>lhs;rw [←List.take_append_drop x.length l,←hxe]
    rw [List.drop_eq_getElem_cons hll,(zA.1 hle).2]
   rw [hsplit] at h he;obtain⟨t',w1,h1,h2,rfl⟩:=kY.1 h;rw [t1] at h1;obtain rfl:=Option.some.inj h1;rw [w.ends] at h2;rw [rV,w.ends] at he;obtain⟨z,w2,z1,z2,rfl⟩:=dN.1 h2;obtain⟨zm,zs,zd⟩:=fB z1;subst zd;have hon:ru v L z:=by
    refine c.tight ok zm z2 he ?_ ?_
    ·rw [zs];simp only at hs;omega
    ·rw [zs];simp;omega
   have hzm:z∈jJ v u:=(gW v u z).2 ⟨zm,zs⟩;obtain⟨j,hj⟩:=List.getElem?_of_mem hzm;rcases Nat.lt_trichotomy j k with hjk | hjk | hjk
   ·exact absurd hon (hfirst j z hjk hj)
   ·subst hjk;rw [hk] at hj;rw [Option.some.inj hj];exact List.le_refl _
   ·obtain⟨b1,c1⟩:=zA.1 hk;obtain⟨b2,c2⟩:=zA.1 hj;have:=List.pairwise_iff_getElem.1 (DV v u) k j b1 b2 hjk;rw [c1,c2] at this;exact of_decide_eq_true this
  ·exact hf
theorem zq.best (ok:aU v)(c:Qk v b L) {a:Bytes} {x:List Bytes} (ha:aG v.pts a=true)(w:zq v a b L x b):qo v a b x (dK v L a).time:=by
 obtain⟨t,t1,t2⟩:=w.walk;have hl:=w.len;rw [c.ok.root] at t2 hl;refine⟨⟨t,t1,by simpa using t2⟩,w.ends,fun l s h he=> ?_⟩;obtain⟨o1,o2⟩:=c.opt l a s ha h he;rcases o2 with o2 | ⟨o2,o3⟩
 ·exact .inl o2
 ·refine .inr ⟨o2,?_⟩;simp only [List.length_cons];by_cases e:(l.length:Int)=(dK v L a).pts
  ·right
   have hxl:x.length=l.length:=by simp at hl;omega
   have:=w.first l s h he o2.symm e;rw [hxl,List.take_length] at this;exact⟨by omega,by rw [Ea];exact this⟩
  ·left
   simp at hl;omega
theorem Qk.short (ok:aU v)(c:Qk v b L) {a:Bytes} (ha:aG v.pts a=true)(h:0≤(dK v L a).pts):(dK v L a).pts≤63:=by
 obtain⟨l,t,w1,w2,w3,w4⟩:=c.ok.walk a ha h;obtain⟨l',t',q1,q2,q3,_,q5⟩:=lX ok _ a l t (Nat.le_refl _) w1;have hl:=pK ok q1 ha q3;have hp:=ok.plen;rcases q5 with rfl | ⟨q5,_⟩
 ·omega
 ·obtain⟨_,o2⟩:=c.opt l' a t' ha q1 (q2.trans w4);omega
theorem M3 (x:Lk):ru v L x↔0≤(dK v L x.dst).pts∧(dK v L x.dst).time+x.min=(dK v L x.src).time∧(dK v L x.dst).pts+1=(dK v L x.src).pts:=by
 unfold ru iI
 cases dK v L x.src with
 | mk p q=>simp
end
end Go.Toll
end
section
namespace Go.Toll
open Go Go.Abs
def cO (v:bg)(far:List Int)(s:Bytes):Int:=far.getD (aV v s) 0
def dG (v:bg)(far:List Int)(y s:Bytes):Prop:=s=y∨cO v far s≠0
structure Hop (v:bg)(p:List Bytes)(y t:Bytes)(far:List Int)(Q:List Bytes):Prop where
 len:far.length=(bu v).length
 start:cO v far y=0
 qs: ∀s∈Q,aG v.pts s=true∧dG v far y s
 walk: ∀s,aG v.pts s=true→dG v far y s→0≤cO v far s∧Rk v (p++[y]) y (cO v far s).toNat s
 sorted:Q.Pairwise fun a b=>cO v far a≤cO v far b
 near: ∀u,Q.head? =some u→ ∀s,aG v.pts s=true→dG v far y s→cO v far s≤cO v far u+1
 closed: ∀s,aG v.pts s=true→dG v far y s→s∈Q∨(s≠t∧ ∀x∈v.lks,x.src=s→x.dst∈p++[y]∨(dG v far y x.dst∧cO v far x.dst≤cO v far s+1))
structure Cr (v:bg)(p:List Bytes)(y t:Bytes)(far:List Int)(Q:List Bytes)(u:Bytes)(k:Nat):Prop where
 len:far.length=(bu v).length
 start:cO v far y=0
 qs: ∀s∈Q,aG v.pts s=true∧dG v far y s
 walk: ∀s,aG v.pts s=true→dG v far y s→0≤cO v far s∧Rk v (p++[y]) y (cO v far s).toNat s
 at':aG v.pts u=true∧dG v far y u∧u≠t
 sorted:Q.Pairwise fun a b=>cO v far a≤cO v far b
 low: ∀s∈Q,cO v far u≤cO v far s
 near: ∀s,aG v.pts s=true→dG v far y s→cO v far s≤cO v far u+1
 done: ∀j s,j<k→(dM v u)[j]? =some s→s∈p++[y]∨dG v far y s
 closed: ∀s,aG v.pts s=true→dG v far y s→s=u∨s∈Q∨(s≠t∧ ∀x∈v.lks,x.src=s→x.dst∈p++[y]∨(dG v far y x.dst∧cO v far x.dst≤cO v far s+1))
section
variable {v : bg} {p : List Bytes} {y t : Bytes} {far : List Int} {Q : List Bytes}
theorem GK (ok:aU v) {s d:Bytes} (hl:far.length=(bu v).length)(hd:aG v.pts d=true)(hs:aG v.pts s=true)(n:Int):cO v (far.set (aV v d) n) s=if s=d then n else cO v far s:=by
 rw [cO,cO,List.getD_eq_getElem?_getD,List.getD_eq_getElem?_getD];by_cases e:s=d
 ·subst e;rw [zI (by rw [hl];exact dD hs),if_pos rfl];rfl
 ·rw [zJ (fun h=>e (gu ok hd hs h).symm),if_neg e]
theorem Aj {s:Bytes} (hl:far.length=(bu v).length)(hs:aG v.pts s=true):far[aV v s]? =some (cO v far s):=by
 have h:aV v s<far.length:=by rw [hl];exact dD hs
 rw [cO,List.getD_eq_getElem?_getD,zB h];rfl
theorem Hop.first (ok:aU v)(hy:aG v.pts y=true):Hop v p y t (List.replicate (bu v).length 0) [y]:=by
 have h0: ∀s,cO v (List.replicate (bu v).length 0) s=0:=fun s=>by
  rw [cO,List.getD_eq_getElem?_getD,List.getElem?_replicate];split <;> rfl
 have hs: ∀s,dG v (List.replicate (bu v).length 0) y s↔s=y:=fun s=>by
  unfold dG;rw [h0];simp
 refine⟨by simp,h0 y,fun s hm=> ?_,fun s hp h=> ?_,by simp,fun u hu s hp h=> ?_,fun s hp h=> ?_⟩
 ·rw [List.mem_singleton.1 hm];exact⟨hy,.inl rfl⟩
 ·rw [(hs s).1 h,h0];exact⟨by omega,[],(0,0),rfl,rfl,by simp,rfl⟩
 ·rw [h0,h0];omega
 ·rw [(hs s).1 h];exact .inl (by simp)
theorem Hop.claim (ok:aU v)(hp:Hop v p y t far Q)(hy:aG v.pts y=true): ∀k s,Rk v (p++[y]) y k s→aG v.pts s=true→(dG v far y s∧cO v far s≤k)∨ ∃u,Q.head? =some u∧cO v far u≤k
 | 0,s,h,_=>by
  rw [h.zero];exact .inl ⟨.inl rfl,by rw [hp.start];simp⟩
 | k+1,s,h,hs=>by
  obtain⟨s',h1,h2,h3,h4⟩:=h.back ok;have hs':aG v.pts s'=true:=by
   obtain⟨x,hx,e,_⟩:=(om v s' s).1 h2;rw [←e];exact (ok.ends x hx).1
  rcases hp.claim ok hy k s' h1 hs' with⟨c1,c2⟩ | ⟨u,c1,c2⟩
  ·rcases hp.closed s' hs' c1 with hq | ⟨_,hc⟩
   ·right
    cases Q with
    | nil=>cases hq
    | cons u Q=>
     refine⟨u,rfl,?_⟩;have hsu:cO v far u≤cO v far s':=by
      rcases List.mem_cons.1 hq with rfl | hq
      ·exact Int.le_refl _
      ·exact (List.pairwise_cons.1 hp.sorted).1 s' hq
     omega
   ·obtain⟨x,hx,e1,e2⟩:=(om v s' s).1 h2;rcases hc x hx e1 with h5 | ⟨h5,h6⟩
    ·rw [e2] at h5;exact absurd h5 h3
    ·rw [e2] at h5 h6;left
     exact⟨h5,by omega⟩
  ·exact .inr ⟨u,c1,by omega⟩
theorem Rk.short (ok:aU v) {q:List Bytes} (hy:aG v.pts y=true) {k:Nat} {s:Bytes} (h:Rk v q y k s): ∃k',k'≤k∧k'≤63∧Rk v q y k' s:=by
 obtain⟨w,c,h1,h2,h3,h4⟩:=h;obtain⟨w',c',q1,q2,q3,q4,q5⟩:=lX ok _ y w c (Nat.le_refl _) h1;have hl:=pK ok q1 hy q3;have hp:=ok.plen;refine⟨w'.length,by rcases q5 with rfl | ⟨_,q5⟩ <;> omega,by omega,w',c',q1,by rw [q2,h2],fun z hz=>h3 z (q4 z hz),rfl⟩
theorem Hop.head_short (ok:aU v) {u:Bytes} (hp:Hop v p y t far (u::Q))(hy:aG v.pts y=true):0≤cO v far u∧cO v far u≤63:=by
 obtain⟨h1,h2⟩:=hp.qs u List.mem_cons_self;obtain⟨w1,w2⟩:=hp.walk u h1 h2;obtain⟨k',k1,k2,k3⟩:=w2.short ok hy;rcases hp.claim ok hy k' u k3 h1 with⟨_,c⟩ | ⟨u',c1,c2⟩
 ·omega
 ·obtain rfl:u=u':=Option.some.inj c1;omega
theorem Hop.found (ok:aU v)(hp:Hop v p y t far (t::Q))(hy:aG v.pts y=true):Rk v (p++[y]) y (cO v far t).toNat t∧ ∀k,Rk v (p++[y]) y k t→(cO v far t).toNat≤k:=by
 obtain⟨h1,h2⟩:=hp.qs t List.mem_cons_self;refine⟨(hp.walk t h1 h2).2,fun k h=> ?_⟩;rcases hp.claim ok hy k t h h1 with⟨_,c⟩ | ⟨u',c1,c2⟩
 ·omega
 ·obtain rfl:t=u':=Option.some.inj c1;omega
theorem Hop.none (ok:aU v)(hp:Hop v p y t far [])(hy:aG v.pts y=true)(ht:aG v.pts t=true)(k:Nat): ¬Rk v (p++[y]) y k t:=fun h=>by
 rcases hp.claim ok hy k t h ht with⟨c,_⟩ | ⟨u',c1,_⟩
 ·rcases hp.closed t ht c with h1 | ⟨h1,_⟩
  ·cases h1
  ·exact h1 rfl
 ·cases c1
theorem Hop.pop {u:Bytes} (hp:Hop v p y t far (u::Q))(hu:u≠t):Cr v p y t far Q u 0:=by
 obtain⟨s1,s2⟩:=List.pairwise_cons.1 hp.sorted;obtain⟨h1,h2⟩:=hp.qs u List.mem_cons_self;refine⟨hp.len,hp.start,fun s hs=>hp.qs s (List.mem_cons_of_mem _ hs),hp.walk,⟨h1,h2,hu⟩,s2,s1,hp.near u rfl,fun j s hj=>by omega,fun s hs hh=> ?_⟩;rcases hp.closed s hs hh with h | h
 ·rcases List.mem_cons.1 h with rfl | h
  ·exact .inl rfl
  ·exact .inr (.inl h)
 ·exact .inr (.inr h)
theorem Cr.old {u d:Bytes} {k:Nat} (m:Cr v p y t far Q u k)(hd:(dM v u)[k]? =some d)(h:d∈p++[y]∨dG v far y d):Cr v p y t far Q u (k+1):=by
 refine⟨m.len,m.start,m.qs,m.walk,m.at',m.sorted,m.low,m.near,fun j s hj hs=> ?_,m.closed⟩;rcases zN j k with h1 | h1
 ·exact m.done j s h1 hs
 ·obtain rfl:j=k:=by omega
  rw [hd] at hs;obtain rfl:=Option.some.inj hs;exact h
theorem Cr.new (ok:aU v) {u d:Bytes} {k:Nat} (m:Cr v p y t far Q u k)(hd:(dM v u)[k]? =some d)(hz:cO v far d=0)(hdy:d≠y)(hdp:d∉p)(hy:aG v.pts y=true):
  Cr v p y t (far.set (aV v d) (cO v far u+1)) (Q++[d]) u (k+1):=by
 have hdm:=zF hd;have hdpt:=LA ok hdm;obtain⟨u1,u2,u3⟩:=m.at';obtain⟨w1,w2⟩:=m.walk u u1 u2;have hnd: ¬dG v far y d:=by
  rintro (e | e)
  ·exact hdy e
  ·exact e hz
 have hne: ∀s,dG v far y s→s≠d:=fun s h e=>hnd (e▸h);have key: ∀s,aG v.pts s=true→cO v (far.set (aV v d) (cO v far u+1)) s=if s=d then cO v far u+1 else cO v far s:=fun s hs=>GK ok m.len hdpt hs _
 have old: ∀s,aG v.pts s=true→dG v far y s→cO v (far.set (aV v d) (cO v far u+1)) s=cO v far s:=fun s hs h=>by rw [key s hs,if_neg (hne s h)]
 have seen: ∀s,aG v.pts s=true→(dG v (far.set (aV v d) (cO v far u+1)) y s↔s=d∨dG v far y s):=fun s hs=>by
  unfold dG;rw [key s hs];by_cases e:s=d
  ·rw [if_pos e];exact⟨fun _=> .inl e,fun _=> .inr (by omega)⟩
  ·rw [if_neg e];constructor
   ·exact fun h=> .inr h
   ·rintro (h | h)
    ·exact absurd h e
    ·exact h
 have hfd:cO v (far.set (aV v d) (cO v far u+1)) d=cO v far u+1:=by rw [key d hdpt,if_pos rfl]
 have hfu:=old u u1 u2;refine⟨by rw [List.length_set];exact m.len,by rw [old y hy (.inl rfl)];exact m.start,fun s hs=> ?_,fun s hs h=> ?_,⟨u1,(seen u u1).2 (.inr u2),u3⟩,?_,fun s hs=> ?_,fun s hs h=> ?_,fun j s hj hs=> ?_,fun s hs h=> ?_⟩
 ·rcases List.mem_append.1 hs with hs | hs
  ·exact⟨(m.qs s hs).1,(seen s (m.qs s hs).1).2 (.inr (m.qs s hs).2)⟩
  ·rw [List.mem_singleton.1 hs];exact⟨hdpt,(seen d hdpt).2 (.inl rfl)⟩
 ·rcases (seen s hs).1 h with rfl | h
  ·rw [hfd];refine⟨by omega,?_⟩;have:(cO v far u+1).toNat=(cO v far u).toNat+1:=by omega
   rw [this];exact w2.step ok hdm (by simp [hdp,hdy])
  ·rw [old s hs h];exact m.walk s hs h
 ·refine List.pairwise_append.2 ⟨List.Pairwise.imp_of_mem (fun ha hb h=> ?_) m.sorted,List.pairwise_singleton _ _,fun a ha b hb=> ?_⟩
  ·rw [old _ (m.qs _ ha).1 (m.qs _ ha).2,old _ (m.qs _ hb).1 (m.qs _ hb).2];exact h
  ·rw [List.mem_singleton.1 hb,hfd,old a (m.qs a ha).1 (m.qs a ha).2];exact m.near a (m.qs a ha).1 (m.qs a ha).2
 ·rw [hfu];rcases List.mem_append.1 hs with hs | hs
  ·rw [old s (m.qs s hs).1 (m.qs s hs).2];exact m.low s hs
  ·rw [List.mem_singleton.1 hs,hfd];omega
 ·rw [hfu];rcases (seen s hs).1 h with rfl | h
  ·rw [hfd];omega
  ·rw [old s hs h];exact m.near s hs h
 ·have hsp:=LA ok (zF hs);rcases zN j k with h1 | h1
  ·rcases m.done j s h1 hs with h2 | h2
   ·exact .inl h2
   ·exact .inr ((seen s hsp).2 (.inr h2))
  ·obtain rfl:j=k:=by omega
   rw [hd] at hs;obtain rfl:=Option.some.inj hs;exact .inr ((seen d hsp).2 (.inl rfl))
 ·rcases (seen s hs).1 h with rfl | h
  ·exact .inr (.inl (by simp))
  ·rcases m.closed s hs h with h1 | h1 | ⟨h1,h2⟩
   ·exact .inl h1
   ·exact .inr (.inl (by simp [h1]))
   ·refine .inr (.inr ⟨h1,fun x hx e=> ?_⟩);rcases h2 x hx e with h3 | ⟨h3,h4⟩
    ·exact .inl h3
    ·have:=(ok.ends x hx).2.1;rw [old x.dst this h3,old s hs h];exact .inr ⟨(seen x.dst this).2 (.inr h3),h4⟩
theorem Cr.finish (ok:aU v) {u:Bytes} (m:Cr v p y t far Q u (dM v u).length):Hop v p y t far Q:=by
 obtain⟨u1,u2,u3⟩:=m.at';refine⟨m.len,m.start,m.qs,m.walk,m.sorted,fun w hw s hs h=> ?_,fun s hs h=> ?_⟩
 ·have h1:=m.near s hs h;have h2:cO v far u≤cO v far w:=by
   cases Q with
   | nil=>cases hw
   | cons w' Q=>
    obtain rfl:w'=w:=Option.some.inj hw;exact m.low _ List.mem_cons_self
  omega
 ·rcases m.closed s hs h with rfl | h1 | h1
  ·right
   refine⟨u3,fun x hx e=> ?_⟩;have hm:x.dst∈dM v s:=(om v s x.dst).2 ⟨x,hx,e,rfl⟩;obtain⟨j,hj⟩:=List.getElem?_of_mem hm;rcases m.done j _ (zA.1 hj).1 hj with h2 | h2
   ·exact .inl h2
   ·exact .inr ⟨h2,m.near _ (ok.ends x hx).2.1 h2⟩
  ·exact .inl h1
  ·exact .inr h1
theorem NT {far:List Int} {i:Nat} {n:Int} (h:far[i]? =some 0)(hn:n≠0):(far.set i n).count 0+1=far.count 0:=by
 induction far generalizing i with
 | nil=>simp at h
 | cons b far ih=>
  cases i with
  | zero=>
   simp at h;subst h
   simp [List.count_cons,hn]
  | succ i=>
   have:=ih (i:=i) (by simpa using h);rw [List.set_cons_succ,List.count_cons,List.count_cons];omega
def Rz (v:bg)(p:List Bytes)(y t:Bytes)(n:Int):Prop:=(n= -1∧ ∀k,¬Rk v (p++[y]) y k t)∨(0≤n∧n≤63∧Rk v (p++[y]) y n.toNat t∧ ∀k,Rk v (p++[y]) y k t→n.toNat≤k)
theorem GX (ok:aU v) {p:List Bytes} {y t:Bytes} {n:Int} (h:Rz v p y t n):kS v (p++[y]) t=decide (0≤n∧(p.length:Int)+1+n≤16):=by
 rw [Bool.eq_iff_iff,Jn ok t (by simp),decide_eq_true_iff,iZ];rcases h with⟨rfl,h⟩ | ⟨h0,h63,h1,h2⟩
 ·constructor
  ·rintro⟨k,hk,_⟩;exact absurd hk (h k)
  ·rintro⟨h,_⟩;omega
 ·constructor
  ·rintro⟨k,hk,hl⟩;have:=h2 k hk;simp at hl;omega
  ·rintro⟨_,hl⟩;exact⟨n.toNat,h1,by simp;omega⟩
end
end Go.Toll
end
section
namespace Go.Toll
open Go Go.Abs
section
variable {v : bg} {S F M p : List Bytes} {i j n : Nat} {x y t : Bytes}
end
end Go.Toll
end
section
namespace Go.Toll
open Go Go.Abs
theorem QE (n:bg)(s:Bytes):(bS n s).isSome=aG (bW n).pts s:=by
 unfold bS bW;split
 ·rw [Bool.eq_iff_iff,List.find?_isSome];simp [aG]
 ·rfl
section
variable {v : bg}
theorem Mh (ok:aU v) {a:Bytes} {l:List Bytes} {s:Int×Int} (ha:aG v.pts a=true)(h:wk v a l=some s):bD v (a::l)=(s.1,s.2,0)∧ ∀z∈a::l,aG v.pts z=true:=by
 have hp: ∀z∈a::l,aG v.pts z=true:=fun z hz=>by
  rcases List.mem_cons.1 hz with e | e
  ·rw [e];exact ha
  ·exact (KV ok h).1 z e
 refine⟨?_,hp⟩;rw [jL hp,h]
structure EA (v:bg)(a b:Bytes)(q:List Bytes)(l:List Bytes)(s:Int×Int):Prop where
 eq:q=a::l
 bnd:bD v q=(s.1,s.2,0)
 walk:wk v a l=some s
 ends:dJ a l=b
 nd:q.Nodup
 len:q.length≤16
 pts: ∀z∈q,aG v.pts z=true
theorem LC (ok:aU v) {a b:Bytes} {i:Nat} {q:List Bytes} (h:(eP v a b).1[i]? =some q): ∃l s,EA v a b q l s:=by
 obtain⟨l,s,h1,h2,h3,h4,h5,h6,_⟩:=(yf ok a b).2.2 q (zF h);subst h1;have:=Mh ok h6 h2;exact⟨l,s,rfl,this.1,h2,h3,h4,h5,this.2⟩
theorem Ma {a b:Bytes} {l:List Bytes} {d:Int} (h:qo v a b l d) {q l':List Bytes} {s:Int×Int} (p:EA v a b q l' s):d≤s.1∧(s.1=d→ ¬q.length<l.length+1∧(q.length=l.length+1→0≤d9 q (a::l))):=by
 have hb:=h.best l' s p.walk p.ends;have hq:=p.eq;subst hq;unfold Cv at hb;have han:=sF (a::l) (a::l');simp only [List.length_cons] at hb ⊢;rcases hb with c | ⟨c,c2⟩
 ·exact⟨by omega,fun e=>by omega⟩
 ·refine⟨by omega,fun _=>⟨by omega,fun e=>by omega⟩⟩
end
end Go.Toll
end
