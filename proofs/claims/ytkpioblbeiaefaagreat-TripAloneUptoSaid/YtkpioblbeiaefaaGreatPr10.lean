/- Part 10 of the lemmas below the statements of this seat: TollGraph. -/
import Derived.Test.YtkpioblbeiaefaaGreatPr09
set_option linter.unusedSectionVars false
set_option linter.unusedVariables false
set_option linter.unusedSimpArgs false
set_option linter.unnecessarySimpa false
set_option maxRecDepth 100000
section
namespace Go.Toll
open Go Go.Abs
structure aV (v:bn):Prop where
 plen:v.pts.length≤64
 llen:v.lks.length≤128
 nd:(v.pts.map (·.name)).Nodup
 short: ∀p∈v.pts,dW p.name=true
 ends: ∀x∈v.lks,aF v.pts x.src=true∧aF v.pts x.dst=true∧x.src≠x.dst
 one:v.lks.Pairwise fun x y=> ¬(x.src=y.src∧x.dst=y.dst)
 rng: ∀x∈v.lks,1≤x.min∧x.min≤x.max∧x.max≤2147483648
theorem ym (l:List Pt)(s:Bytes):aF l s=true↔s∈l.map (·.name):=by
 rw [aF,List.any_eq_true,List.mem_map];constructor
 ·rintro⟨p,hp,h⟩;exact⟨p,hp,of_decide_eq_true h⟩
 ·rintro⟨p,hp,rfl⟩;exact⟨p,hp,by simp⟩
theorem wY (l m:List Pt)(s:Bytes):aF (l++m) s=(aF l s || aF m s):=by simp [aF]
theorem FI: ∀ {l before:List Pt},fT before l=0→(∀p∈l,dW p.name=true∧aF before p.name=false)∧(l.map (·.name)).Nodup
 | [],_,_=>by simp
 | p::l,before,h=>by
  rw [fT] at h;split at h
  ·cases h
  rename_i h1;split at h
  ·cases h
  rename_i h2;split at h
  ·cases h
  split at h
  ·cases h
  obtain⟨i1,i2⟩:=FI h;refine⟨fun q hq=> ?_,?_⟩
  ·rcases List.mem_cons.1 hq with rfl | hq
   ·exact⟨by simpa using h1,by simpa using h2⟩
   ·obtain⟨j1,j2⟩:=i1 q hq;rw [wY,Bool.or_eq_false_iff] at j2;exact⟨j1,j2.1⟩
  ·rw [List.map_cons,List.nodup_cons];refine⟨fun hm=> ?_,i2⟩;obtain⟨q,hq,e⟩:=List.mem_map.1 hm;have j2:=(i1 q hq).2;rw [wY,Bool.or_eq_false_iff] at j2;simp [aF,e] at j2
theorem Cf {pts:List Pt}: ∀ {l before:List Lk},iR pts before l=0→
  (∀x∈l,(aF pts x.src=true∧aF pts x.dst=true∧x.src≠x.dst)∧(1≤x.min∧x.min≤x.max∧x.max≤2147483648)∧ ∀y∈before,¬(y.src=x.src∧y.dst=x.dst))∧l.Pairwise fun x y=> ¬(x.src=y.src∧x.dst=y.dst)
 | [],_,_=>by simp
 | x::l,before,h=>by
  rw [iR] at h;split at h
  ·cases h
  rename_i h1;split at h
  ·cases h
  rename_i h2;split at h
  ·cases h
  rename_i h3;obtain⟨i1,i2⟩:=Cf h;refine⟨fun y hy=> ?_,List.pairwise_cons.2 ⟨fun y hy=>(i1 y hy).2.2 x (by simp),i2⟩⟩;rcases List.mem_cons.1 hy with rfl | hy
  ·refine⟨⟨?_,?_,?_⟩,by omega,fun z hz hc=>h2 ?_⟩
   ·cases e:aF pts y.src
    ·exact absurd (.inl e) h1
    ·rfl
   ·cases e:aF pts y.dst
    ·exact absurd (.inr (.inl e)) h1
    ·rfl
   ·exact fun e=>h1 (.inr (.inr e))
   ·rw [List.any_eq_true];exact⟨z,hz,by simp [hc]⟩
  ·obtain⟨j1,j2,j3⟩:=i1 y hy;exact⟨j1,j2,fun z hz=>j3 z (by simp [hz])⟩
theorem uk {n:bn} (h:d9 n=0):aV n:=by
 have hl:=vR h;unfold d9 at h;split at h
 ·cases h
 split at h
 ·rename_i h2;exact absurd h h2
 rename_i h2;have h2:fT [] n.pts=0:=by simpa using h2
 obtain⟨p1,p2⟩:=FI h2;obtain⟨l1,l2⟩:=Cf h;exact⟨hl.1,hl.2,p2,fun p hp=>(p1 p hp).1,fun x hx=>(l1 x hx).1,l2,fun x hx=>(l1 x hx).2.1⟩
theorem uD (n:bn):aV (cu n):=by
 unfold cu;split
 ·rename_i h;exact uk h
 ·exact⟨by simp,by simp,by simp,by simp,by simp,by simp,by simp⟩
def bB (v:bn):List Bytes:=ku (v.pts.map (·.name))
def kF (v:bn)(s:Bytes):List Lk:=(v.lks.filter fun x=>decide (x.src=s)).mergeSort fun x y=>decide (x.dst≤y.dst)
def dR (v:bn)(s:Bytes):List Bytes:=(kF v s).map (·.dst)
def lkOf (v:bn)(a b:Bytes):Option Lk:=v.lks.find? fun x=>decide (x.src=a) && decide (x.dst=b)
def dN:Bytes→List Bytes→Bytes
 | a,[]=>a
 | _,b::l=>dN b l
def wk (v:bn):Bytes→List Bytes→Option (Int×Int)
 | _,[]=>some (0,0)
 | a,b::l=>match lkOf v a b,wk v b l with
  | some x,some s=>some (x.min+s.1,x.max+s.2)
  | _,_=>none
section
variable {v : bn}
theorem tC (v:bn)(s:Bytes):s∈bB v↔aF v.pts s=true:=by rw [bB,yN,ym]
theorem lI (v:bn):(bB v).length=v.pts.length:=by rw [bB,FR,List.length_map]
theorem aV.nodup (ok:aV v):(bB v).Nodup:=zS ok.nd
theorem QW (v:bn):oH (bB v):=FQ _
theorem aV.name (ok:aV v) {s:Bytes} (h:aF v.pts s=true):dW s=true:=by
 obtain⟨p,hp,rfl⟩:=List.mem_map.1 ((ym _ _).1 h);exact ok.short p hp
theorem QD {s:Bytes} (h:dW s=true):s.length≤12:=by
 simp [dW] at h;omega
theorem iI (v:bn)(s:Bytes)(x:Lk):x∈kF v s↔x∈v.lks∧x.src=s:=by
 rw [kF,(List.mergeSort_perm _ _).mem_iff,List.mem_filter];simp
theorem Oz (v:bn)(s:Bytes):(kF v s).length≤v.lks.length:=by
 rw [kF,List.length_mergeSort];exact List.length_filter_le _ _
theorem Fq (v:bn)(s:Bytes):(kF v s).Pairwise fun x y=>decide (x.dst≤y.dst)=true:=
 List.pairwise_mergeSort (fun a b c=>Fp a.dst b.dst c.dst) (fun a b=>Fj a.dst b.dst) _
theorem aV.uniq (ok:aV v) {x y:Lk} (hx:x∈v.lks)(hy:y∈v.lks)(h1:x.src=y.src)(h2:x.dst=y.dst):x=y:=by
 have: ∀l:List Lk,l.Pairwise (fun x y=> ¬(x.src=y.src∧x.dst=y.dst))→x∈l→y∈l→x=y:=by
  intro l
  induction l with
  | nil=>intro _ h;cases h
  | cons z l ih=>
   intro hp hx hy;obtain⟨p1,p2⟩:=List.pairwise_cons.1 hp;rcases List.mem_cons.1 hx with ex | hx' <;> rcases List.mem_cons.1 hy with ey | hy'
   ·rw [ex,ey]
   ·rw [ex] at h1 h2;exact absurd ⟨h1,h2⟩ (p1 y hy')
   ·rw [ey] at h1 h2;exact absurd ⟨h1.symm,h2.symm⟩ (p1 x hx')
   ·exact ih p2 hx' hy'
 exact this _ ok.one hx hy
theorem aV.dstnd (ok:aV v)(s:Bytes):((kF v s).map (·.dst)).Nodup:=by
 have h:((v.lks.filter fun x=>decide (x.src=s)).map (·.dst)).Nodup:=by
  refine List.pairwise_map.2 ?_;have h1:=ok.one.sublist (List.filter_sublist (p:=fun x=>decide (x.src=s)) (l:=v.lks));refine List.Pairwise.imp_of_mem ?_ h1;intro x y hx hy hne e;exact hne ⟨by rw [of_decide_eq_true (List.mem_filter.1 hx).2,of_decide_eq_true (List.mem_filter.1 hy).2],e⟩
 exact (((List.mergeSort_perm _ _).map _).nodup_iff).2 h
theorem OI (v:bn)(s:Bytes):oH (dR v s):=List.pairwise_map.2 (Fq v s)
theorem aV.nextnd (ok:aV v)(s:Bytes):(dR v s).Nodup:=ok.dstnd s
theorem pu (v:bn)(s t:Bytes):t∈dR v s↔ ∃x∈v.lks,x.src=s∧x.dst=t:=by
 rw [dR,List.mem_map];constructor
 ·rintro⟨x,hx,rfl⟩;exact⟨x,((iI v s x).1 hx).1,((iI v s x).1 hx).2,rfl⟩
 ·rintro⟨x,hx,h1,h2⟩;exact⟨x,(iI v s x).2 ⟨hx,h1⟩,h2⟩
theorem fO {a b:Bytes} {x:Lk} (h:lkOf v a b=some x):x∈v.lks∧x.src=a∧x.dst=b:=by
 have h1:=List.mem_of_find?_eq_some h;have h2:=List.find?_some h;simp at h2;exact⟨h1,h2⟩
theorem aV.lkOf (ok:aV v) {x:Lk} (hx:x∈v.lks):lkOf v x.src x.dst=some x:=by
 cases e:Go.Toll.lkOf v x.src x.dst with
 | none=>
  have:=List.find?_eq_none.1 e x hx;simp at this
 | some y=>
  obtain⟨h1,h2,h3⟩:=fO e;rw [ok.uniq h1 hx h2 h3]
theorem yz (ok:aV v)(a b:Bytes):b∈dR v a↔ ∃x,lkOf v a b=some x:=by
 rw [pu];constructor
 ·rintro⟨x,hx,rfl,rfl⟩;exact⟨x,ok.lkOf hx⟩
 ·rintro⟨x,h⟩;obtain⟨h1,h2,h3⟩:=fO h;exact⟨x,h1,h2,h3⟩
@[simp] theorem RU (v:bn) (a:Bytes):wk v a []=some (0,0):=rfl
theorem dS {a b:Bytes} {l:List Bytes} {s:Int×Int}:wk v a (b::l)=some s↔ ∃x t,lkOf v a b=some x∧wk v b l=some t∧s=(x.min+t.1,x.max+t.2):=by
 rw [wk]
 cases e1:lkOf v a b with
 | none=>simp
 | some x=>
  cases e2:wk v b l with
  | none=>simp
  | some t=>
   simp only [Option.some.injEq];constructor
   ·rintro rfl;exact⟨x,t,rfl,rfl,rfl⟩
   ·rintro⟨_,_,rfl,rfl,h⟩;exact h.symm
theorem ug (a:Bytes): ∀(x y:List Bytes),dN a (x++y)=dN (dN a x) y
 | [],y=>rfl
 | b::x,y=>ug b x y
theorem fC (a:Bytes)(x:List Bytes)(b:Bytes):dN a (x++[b])=b:=by rw [ug];rfl
theorem lZ {a:Bytes}: ∀ {x y:List Bytes} {s:Int×Int},wk v a (x++y)=some s↔ ∃t u,wk v a x=some t∧wk v (dN a x) y=some u∧s=(t.1+u.1,t.2+u.2)
 | [],y,s=>by
  simp only [List.nil_append,RU,dN,Option.some.injEq];constructor
  ·intro h;exact⟨(0,0),s,rfl,h,by simp⟩
  ·rintro⟨t,u,rfl,h,rfl⟩;simpa using h
 | b::x,y,s=>by
  rw [List.cons_append,dS];constructor
  ·rintro⟨z,t,h1,h2,rfl⟩;obtain⟨t1,u,h3,h4,rfl⟩:=lZ.1 h2;exact⟨(z.min+t1.1,z.max+t1.2),u,dS.2 ⟨z,t1,h1,h3,rfl⟩,h4,by simp [Int.add_assoc]⟩
  ·rintro⟨t,u,h1,h2,rfl⟩;obtain⟨z,t1,h3,h4,rfl⟩:=dS.1 h1;exact⟨z,(t1.1+u.1,t1.2+u.2),h3,lZ.2 ⟨t1,u,h4,h2,rfl⟩,by simp [Int.add_assoc]⟩
theorem tV (ok:aV v) {a:Bytes}: ∀ {l:List Bytes} {s:Int×Int},wk v a l=some s→(l.length:Int)≤s.1∧s.1≤s.2∧s.2≤l.length*2147483648
 | [],s,h=>by
  obtain rfl:=Option.some.inj h;simp
 | b::l,s,h=>by
  obtain⟨x,t,h1,h2,rfl⟩:=dS.1 h;obtain⟨i1,i2,i3⟩:=tV ok h2;obtain⟨r1,r2,r3⟩:=ok.rng x (fO h1).1;simp only [List.length_cons]
  push_cast
  omega
theorem Iu (ok:aV v) {a:Bytes}: ∀ {l:List Bytes} {s:Int×Int},wk v a l=some s→(∀z∈l,aF v.pts z=true)∧(l≠[]→aF v.pts a=true)
 | [],s,h=>by simp
 | b::l,s,h=>by
  obtain⟨x,t,h1,h2,rfl⟩:=dS.1 h;obtain⟨i1,i2⟩:=Iu ok h2;obtain⟨m,e1,e2⟩:=fO h1;obtain⟨p1,p2,_⟩:=ok.ends x m;rw [e1] at p1;rw [e2] at p2
  refine⟨fun z hz=> ?_,fun _=>p1⟩;rcases List.mem_cons.1 hz with rfl | hz
  ·exact p2
  ·exact i1 z hz
theorem oN (a:Bytes): ∀l:List Bytes,dN a l∈a::l
 | []=>by simp [dN]
 | b::l=>List.mem_cons_of_mem _ (oN b l)
theorem mY (ok:aV v): ∀(n:Nat) (a:Bytes) (l:List Bytes) (s:Int×Int),l.length≤n→wk v a l=some s→
  ∃l' s',wk v a l'=some s'∧dN a l'=dN a l∧(a::l').Nodup∧(∀z∈l',z∈l)∧(l'=l∨(s'.1<s.1∧l'.length<l.length))
 | 0,a,l,s,hn,h=>by
  obtain rfl:l=[]:=List.length_eq_zero_iff.1 (by omega);exact⟨[],s,h,rfl,by simp,by simp,.inl rfl⟩
 | n+1,a,[],s,hn,h=>⟨[],s,h,rfl,by simp,by simp,.inl rfl⟩
 | n+1,a,b::l,s,hn,h=>by
  by_cases ha:a∈b::l
  ·obtain⟨x,y,e⟩:=List.append_of_mem ha;rw [e,show x++a::y=(x++[a])++y by simp] at h;obtain⟨t,u,h1,h2,rfl⟩:=lZ.1 h;rw [fC] at h2;have hr:=tV ok h1;have hyl:y.length≤n:=by
    have:=congrArg List.length e;simp at this hn;omega
   obtain⟨l',s',q1,q2,q3,q4,q5⟩:=mY ok n a y u hyl h2;simp at hr;have hlen:=congrArg List.length e;simp at hlen;refine⟨l',s',q1,?_,q3,fun z hz=> ?_,.inr ⟨?_,?_⟩⟩
   ·rw [q2,e,show x++a::y=(x++[a])++y by simp,ug,fC]
   ·rw [e];simp [q4 z hz]
   ·rcases q5 with rfl | ⟨q5,q6⟩
    ·have:s'=u:=by rw [q1] at h2;exact Option.some.inj h2
     subst this;show s'.1<t.1+s'.1;omega
    ·show s'.1<t.1+u.1;omega
   ·rcases q5 with rfl | ⟨q5,q6⟩
    ·simp;omega
    ·simp;omega
  ·obtain⟨x,t,h1,h2,rfl⟩:=dS.1 h;obtain⟨l',s',q1,q2,q3,q4,q5⟩:=mY ok n b l t (by simpa using hn) h2;refine⟨b::l',(x.min+s'.1,x.max+s'.2),dS.2 ⟨x,s',h1,q1,rfl⟩,q2,List.nodup_cons.2 ⟨fun hm=>ha ?_,q3⟩,fun z hz=> ?_,?_⟩
   ·rcases List.mem_cons.1 hm with rfl | hm
    ·simp
    ·exact List.mem_cons_of_mem _ (q4 a hm)
   ·rcases List.mem_cons.1 hz with rfl | hz
    ·simp
    ·exact List.mem_cons_of_mem _ (q4 z hz)
   ·rcases q5 with rfl | ⟨q5,q6⟩
    ·exact .inl rfl
    ·exact .inr ⟨by show x.min+s'.1<x.min+t.1;omega,by simpa using q6⟩
theorem uV: ∀ {l m:List Bytes},l.Nodup→(∀z∈l,z∈m)→l.length≤m.length
 | [],m,_,_=>by simp
 | a::l,m,hn,h=>by
  obtain⟨h1,h2⟩:=List.nodup_cons.1 hn;have ha:=h a List.mem_cons_self;have:=uV (m:=m.erase a) h2 fun z hz=>(List.mem_erase_of_ne (fun e:z=a=>h1 (by rw [←e];exact hz))).2 (h z (List.mem_cons_of_mem _ hz));rw [List.length_erase_of_mem ha] at this;have:=List.length_pos_of_mem ha;simp;omega
theorem qK (ok:aV v) {a:Bytes} {l:List Bytes} {s:Int×Int} (h:wk v a l=some s)(ha:aF v.pts a=true)(hn:(a::l).Nodup):l.length+1≤v.pts.length:=by
 have:=uV (m:=bB v) hn fun z hz=>(tC v z).2 (by
  rcases List.mem_cons.1 hz with rfl | hz
  ·exact ha
  ·exact (Iu ok h).1 z hz)
 rw [lI] at this;simpa using this
end
def bM (v:bn)(p:List Bytes):Int×Int×Int:=match p with
 | []=>(0,0,16)
 | a::l=>if (a::l).all (aF v.pts) then (match wk v a l with
  | some s=>(s.1,s.2,0)
  | none=>(0,0,21)) else (0,0,16)
theorem y5 {v:bn} {p:List Bytes} (hne:p≠[])(h: ∃s∈p,aF v.pts s=false):bM v p=(0,0,16):=by
 cases p with
 | nil=>exact absurd rfl hne
 | cons a l=>
  obtain⟨s,hs,h⟩:=h;rw [bM,if_neg];intro hc;rw [List.all_eq_true.1 hc s hs] at h;cases h
theorem kH {v:bn} {a:Bytes} {l:List Bytes} (h: ∀s∈a::l,aF v.pts s=true):bM v (a::l)=match wk v a l with
  | some s=>(s.1,s.2,0)
  | none=>(0,0,21):=by
 rw [bM,if_pos (List.all_eq_true.2 h)]
def iter {α:Type} (f:α→α):Nat→α→α
 | 0,x=>x
 | n+1,x=>f (iter f n x)
def fw (out:List Bytes)(x:Lk):List Bytes:=if x.src∈out then sK out x.dst else out
def lJ (v:bn)(out:List Bytes):List Bytes:=v.lks.foldl fw out
def Rc (v:bn)(a:Bytes):List Bytes:=if aF v.pts a then iter (lJ v) v.pts.length [a] else []
def LK (v:bn)(a:Bytes)(r i:Nat):List Bytes:=(v.lks.take i).foldl fw (iter (lJ v) r [a])
theorem OY (v:bn)(a:Bytes)(r:Nat):LK v a r 0=iter (lJ v) r [a]:=rfl
theorem Ra (v:bn)(a:Bytes)(r:Nat):LK v a r v.lks.length=LK v a (r+1) 0:=by
 rw [LK,List.take_length];rfl
theorem CX: ∀(ls:List Lk) (out:List Bytes),(ls.foldl fw out).length≤out.length+ls.length
 | [],_=>by simp
 | x::ls,out=>by
  rw [List.foldl_cons];have h1:=CX ls (fw out x);have h2:(fw out x).length≤out.length+1:=by
   unfold fw;split
   ·exact Jo _ _
   ·omega
  simp;omega
theorem Rb {v:bn} (hl:v.lks.length≤128)(a:Bytes): ∀r i,i≤v.lks.length→(LK v a r i).length≤1+128*r+i
 | 0,i,hi=>by
  have:=CX (v.lks.take i) [a];rw [LK,iter];simp at this ⊢;omega
 | r+1,i,hi=>by
  have h1:=CX (v.lks.take i) (iter (lJ v) (r+1) [a]);have h2:=Rb hl a r v.lks.length (Nat.le_refl _);rw [Ra,OY] at h2;rw [LK];simp at h1 ⊢;omega
def PP (v:bn)(a b:Bytes):Prop:= ∃l s,wk v a l=some s∧dN a l=b
section
variable {v : bn}
theorem PP.refl (a:Bytes):PP v a a:=⟨[],(0,0),rfl,rfl⟩
theorem PP.step (ok:aV v) {a:Bytes} {x:Lk} (hx:x∈v.lks)(h:PP v a x.src):PP v a x.dst:=by
 obtain⟨l,s,h1,h2⟩:=h;refine⟨l++[x.dst],(s.1+(x.min+0),s.2+(x.max+0)),lZ.2 ⟨s,(x.min+0,x.max+0),h1,?_,rfl⟩,fC _ _ _⟩;rw [h2];exact dS.2 ⟨x,(0,0),ok.lkOf hx,rfl,rfl⟩
theorem JO (ok:aV v)(a:Bytes): ∀(ls:List Lk) (out:List Bytes),(∀x∈ls,x∈v.lks)→oH out→out.Nodup→(∀t∈out,PP v a t)→
  oH (ls.foldl fw out)∧(ls.foldl fw out).Nodup∧(∀t∈ls.foldl fw out,PP v a t)∧(∀t∈out,t∈ls.foldl fw out)∧ ∀x∈ls,x.src∈out→x.dst∈ls.foldl fw out
 | [],out,_,h1,h2,h3=>⟨h1,h2,h3,fun t h=>h,by simp⟩
 | x::ls,out,hl,h1,h2,h3=>by
  have hs:oH (fw out x)∧(fw out x).Nodup∧(∀t∈fw out x,PP v a t)∧(∀t∈out,t∈fw out x)∧(x.src∈out→x.dst∈fw out x):=by
   unfold fw;split
   ·rename_i hx;refine⟨Jn _ h1,Ca _ h2,fun t ht=> ?_,fun t ht=>(xg _ _ _).2 (.inr ht),fun _=>(xg _ _ _).2 (.inl rfl)⟩;rcases (xg _ _ _).1 ht with rfl | ht
    ·exact (h3 _ hx).step ok (hl x List.mem_cons_self)
    ·exact h3 t ht
   ·rename_i hx;exact⟨h1,h2,h3,fun t h=>h,fun h=>absurd h hx⟩
  obtain⟨s1,s2,s3,s4,s5⟩:=hs;obtain⟨i1,i2,i3,i4,i5⟩:=JO ok a ls _ (fun y hy=>hl y (List.mem_cons_of_mem _ hy)) s1 s2 s3;rw [List.foldl_cons];refine⟨i1,i2,i3,fun t ht=>i4 t (s4 t ht),fun y hy hs=> ?_⟩;rcases List.mem_cons.1 hy with rfl | hy
  ·exact i4 _ (s5 hs)
  ·exact i5 y hy (s4 _ hs)
theorem JP (ok:aV v)(a:Bytes): ∀n,oH (iter (lJ v) n [a])∧(iter (lJ v) n [a]).Nodup∧(∀t∈iter (lJ v) n [a],PP v a t)∧ ∀l s,l.length≤n→wk v a l=some s→dN a l∈iter (lJ v) n [a]
 | 0=>by
  refine⟨by simp [iter,oH],by simp [iter],fun t ht=> ?_,fun l s hl h=> ?_⟩
  ·rw [iter,List.mem_singleton] at ht;subst ht;exact PP.refl _
  ·obtain rfl:l=[]:=List.length_eq_zero_iff.1 (by omega);simp [iter,dN]
 | n+1=>by
  obtain⟨i1,i2,i3,i4⟩:=JP ok a n;obtain⟨j1,j2,j3,j4,j5⟩:=JO ok a v.lks _ (fun _ h=>h) i1 i2 i3;refine⟨j1,j2,j3,fun l s hl h=> ?_⟩;rcases List.eq_nil_or_concat l with rfl | ⟨l',b,rfl⟩
  ·exact j4 _ (i4 [] (0,0) (by simp) rfl)
  ·rw [List.concat_eq_append] at h hl ⊢;obtain⟨t,u,h1,h2,_⟩:=lZ.1 h;obtain⟨x,_,h3,_,_⟩:=dS.1 h2;obtain⟨m,e1,e2⟩:=fO h3;rw [fC,←e2];refine j5 x m ?_;rw [e1];exact i4 l' t (by simp at hl;omega) h1
theorem Vk (ok:aV v)(a b:Bytes):b∈Rc v a↔aF v.pts a=true∧PP v a b:=by
 unfold Rc;split
 ·rename_i ha;obtain⟨i1,i2,i3,i4⟩:=JP ok a v.pts.length;constructor
  ·intro h;exact⟨ha,i3 b h⟩
  ·rintro⟨_,l,s,h1,h2⟩;obtain⟨l',s',q1,q2,q3,_⟩:=mY ok _ a l s (Nat.le_refl _) h1;have:=qK ok q1 ha q3;rw [←h2,←q2];exact i4 l' s' (by omega) q1
 ·rename_i ha;simp [ha]
end
end Go.Toll
end
section
namespace Go.Toll
open Go Go.Abs
def Ed (d:Int)(p:List Bytes)(e:Int)(q:List Bytes):Prop:=d<e∨(d=e∧(p.length<q.length∨(p.length=q.length∧dQ p q≤0)))
theorem wN (d:Int)(p:List Bytes):Ed d p d p:= .inr ⟨rfl,.inr ⟨rfl,by rw [FH];omega⟩⟩
theorem mW {d e f:Int} {p q r:List Bytes} (h1:Ed d p e q)(h2:Ed e q f r):Ed d p f r:=by
 unfold Ed at*;rcases h1 with h1 | ⟨rfl,h1⟩
 ·rcases h2 with h2 | ⟨rfl,h2⟩
  ·exact .inl (by omega)
  ·exact .inl h1
 ·rcases h2 with h2 | ⟨rfl,h2⟩
  ·exact .inl h2
  ·refine .inr ⟨rfl,?_⟩;rcases h1 with h1 | ⟨h1,h1'⟩
   ·rcases h2 with h2 | ⟨h2,_⟩ <;> exact .inl (by omega)
   ·rcases h2 with h2 | ⟨h2,h2'⟩
    ·exact .inl (by omega)
    ·exact .inr ⟨by omega,CQ h1' h2'⟩
theorem Gt {d e:Int} {p q:List Bytes} (h1:Ed d p e q)(h2:Ed e q d p):d=e∧p=q:=by
 unfold Ed at*;rcases h1 with h1 | ⟨rfl,h1⟩
 ·rcases h2 with h2 | ⟨rfl,h2⟩
  ·omega
  ·omega
 ·rcases h2 with h2 | ⟨_,h2⟩
  ·omega
  ·refine⟨rfl,?_⟩;rcases h1 with h1 | ⟨h1,h1'⟩
   ·rcases h2 with h2 | ⟨h2,_⟩ <;> omega
   ·rcases h2 with h2 | ⟨h2,h2'⟩
    ·omega
    ·have:=uq p q;exact ut.1 (by omega)
theorem Si {d e:Int} {p q:List Bytes} (m:Int)(z:Bytes)(h:Ed d p e q):Ed (d+m) (p++[z]) (e+m) (q++[z]):=by
 unfold Ed at*;rcases h with h | ⟨rfl,h⟩
 ·exact .inl (by omega)
 ·refine .inr ⟨rfl,?_⟩;rcases h with h | ⟨h,h'⟩
  ·exact .inl (by simp;omega)
  ·refine .inr ⟨by simp;omega,?_⟩;rw [CP _ _ h];split
   ·rw [FH];omega
   ·exact h'
def Gs (d:Int)(p:List Bytes)(e:Int)(q:List Bytes):Bool:=
 if q=[]∨d≠e then decide (q=[]) || decide (d<e) else if p.length≠q.length then decide (p.length<q.length) else decide (dQ p q<0)
theorem NQ {d e:Int} {p q:List Bytes} (h:Gs d p e q=true)(hq:q≠[]):Ed d p e q:=by
 unfold Gs at h;split at h
 ·rename_i c;simp [hq] at h;exact .inl h
 ·rename_i c;have c1:d=e:=by
   rcases Decidable.em (d=e) with h | h
   ·exact h
   ·exact absurd (.inr h) c
  split at h
  ·exact .inr ⟨c1,.inl (by simpa using h)⟩
  ·rename_i c2;exact .inr ⟨c1,.inr ⟨by omega,by have:=of_decide_eq_true h;omega⟩⟩
theorem KS {d e:Int} {p q:List Bytes} (h:Gs d p e q=false):q≠[]∧Ed e q d p:=by
 unfold Gs at h;split at h
 ·rename_i c;rw [Bool.or_eq_false_iff] at h;have h1:q≠[]:=of_decide_eq_false h.1;have h2: ¬d<e:=of_decide_eq_false h.2;refine⟨h1,?_⟩;rcases c with c | c
  ·exact absurd c h1
  ·exact .inl (by omega)
 ·rename_i c;have c0:q≠[]:=fun h=>c (.inl h);have c1:d=e:=by
   rcases Decidable.em (d=e) with h | h
   ·exact h
   ·exact absurd (.inr h) c
  refine⟨c0,?_⟩;split at h
  ·rename_i c2;have h2: ¬p.length<q.length:=of_decide_eq_false h;exact .inr ⟨c1.symm,.inl (by omega)⟩
  ·rename_i c2;have h2: ¬dQ p q<0:=of_decide_eq_false h;have:=uq p q;exact .inr ⟨c1.symm,.inr ⟨by omega,by omega⟩⟩
def gI (l:List Pt)(s:Bytes):Nat:=l.findIdx fun p=>decide (p.name=s)
theorem CU {l:List Pt} {s:Bytes} (h:aF l s=true): ∃p,l[gI l s]? =some p∧p.name=s:=by
 rw [aF,List.any_eq_true] at h;have hlt:gI l s<l.length:=List.findIdx_lt_length.2 h;refine⟨l[gI l s],zB hlt,?_⟩;have:=List.findIdx_getElem (w:=hlt) (p:=fun p:Pt=>decide (p.name=s));exact of_decide_eq_true this
theorem qD {l:List Pt} {s:Bytes} (h:aF l s=true):gI l s<l.length:=by
 obtain⟨p,hp,_⟩:=CU h;exact (zA.1 hp).1
theorem QV {l:List Pt} {s t:Bytes} (hs:aF l s=true)(ht:aF l t=true)(h:gI l s=gI l t):s=t:=by
 obtain⟨p,hp,rfl⟩:=CU hs;obtain⟨q,hq,rfl⟩:=CU ht;rw [h,hq] at hp;exact (congrArg Pt.name (Option.some.inj hp)).symm
theorem w9 {l:List Pt} {s:Bytes} (h:aF l s=true):kN (fun p:Pt=>decide (p.name=s)) l=(gI l s:Int):=by
 have key: ∀(l:List Pt) (i:Nat),aF l s=true→idxFrom (fun p:Pt=>decide (p.name=s)) i l=((i+gI l s:Nat):Int):=by
  intro l
  induction l with
  | nil=>intro i h;cases h
  | cons p l ih=>
   intro i h;rw [idxFrom,gI,List.findIdx_cons];by_cases hp:p.name=s
   ·simp [hp]
   ·rw [aF,List.any_cons,show decide (p.name=s)=false by simp [hp],Bool.false_or] at h;rw [show decide (p.name=s)=false by simp [hp]];have:=ih (i+1) h;simp only [Bool.false_eq_true,if_false,cond_false];rw [this,gI];omega
 have:=key l 0 h;simpa [kN] using this
abbrev St:=List (List Bytes×Int)
def iD (v:bn)(st:St)(s:Bytes):List Bytes×Int:=st.getD (gI v.pts s) ([],0)
def je (v:bn)(st:St)(x:Lk):St:=
 if (iD v st x.src).1=[] then st
 else if Gs ((iD v st x.src).2+x.min) ((iD v st x.src).1++[x.dst]) (iD v st x.dst).2 (iD v st x.dst).1 then st.set (gI v.pts x.dst) ((iD v st x.src).1++[x.dst],(iD v st x.src).2+x.min) else st
def tF (v:bn)(st:St):St:=v.lks.foldl (je v) st
def mf (v:bn)(a:Bytes):St:=(v.pts.map fun _=>(([]:List Bytes),(0:Int))).set (gI v.pts a) ([a],0)
def Nq (v:bn)(a:Bytes):St:=iter (tF v) v.pts.length (mf v a)
def iL (v:bn)(a b:Bytes):Option (List Bytes×Int):=
 if aF v.pts a=true∧aF v.pts b=true then (if (iD v (Nq v a) b).1=[] then none else some (iD v (Nq v a) b)) else none
structure rD (v:bn)(a b:Bytes)(l:List Bytes)(d:Int):Prop where
 walk: ∃s,wk v a l=some s∧s.1=d
 ends:dN a l=b
 best: ∀l' s,wk v a l'=some s→dN a l'=b→Ed d (a::l) s.1 (a::l')
section
variable {v : bn}
theorem rD.uniq {a b:Bytes} {l l':List Bytes} {d d':Int} (h:rD v a b l d)(h':rD v a b l' d'):l=l'∧d=d':=by
 obtain⟨s,w1,rfl⟩:=h.walk;obtain⟨s',w1',rfl⟩:=h'.walk;obtain⟨e1,e2⟩:=Gt (h.best l' s' w1' h'.ends) (h'.best l s w1 h.ends);exact⟨by injection e2,e1⟩
theorem AL (st:St)(hl:st.length=v.pts.length) {s t:Bytes} (hs:aF v.pts s=true)(ht:aF v.pts t=true)(y:List Bytes×Int):iD v (st.set (gI v.pts s) y) t=if t=s then y else iD v st t:=by
 unfold iD;rw [List.getD_eq_getElem?_getD,List.getD_eq_getElem?_getD,List.getElem?_set];by_cases h:t=s
 ·subst h;rw [if_pos rfl,if_pos rfl,if_pos (by rw [hl];exact qD ht)];rfl
 ·rw [if_neg h,if_neg (fun e=>h (QV ht hs e.symm))]
structure Nw (v:bn)(a:Bytes)(st:St):Prop where
 len:st.length=v.pts.length
 walk: ∀t,aF v.pts t=true→(iD v st t).1≠[]→ ∃l s,(iD v st t).1=a::l∧wk v a l=some s∧s.1=(iD v st t).2∧dN a l=t
def Dv (v:bn)(st' st:St):Prop:= ∀t,aF v.pts t=true→(iD v st t).1≠[]→(iD v st' t).1≠[]∧Ed (iD v st' t).2 (iD v st' t).1 (iD v st t).2 (iD v st t).1
theorem Dv.refl (st:St):Dv v st st:=fun t _ h=>⟨h,wN _ _⟩
theorem Dv.trans {a b c:St} (h1:Dv v a b)(h2:Dv v b c):Dv v a c:=fun t ht h=>by
 obtain⟨p1,p2⟩:=h2 t ht h;obtain⟨q1,q2⟩:=h1 t ht p1;exact⟨q1,mW q2 p2⟩
theorem Q4 (ok:aV v) {a:Bytes} {st:St} (h:Nw v a st) {x:Lk} (hx:x∈v.lks):Nw v a (je v st x)∧Dv v (je v st x) st∧
  ((iD v st x.src).1≠[]→(iD v (je v st x) x.dst).1≠[]∧Ed (iD v (je v st x) x.dst).2 (iD v (je v st x) x.dst).1 ((iD v st x.src).2+x.min) ((iD v st x.src).1++[x.dst])):=by
 obtain⟨p1,p2,p3⟩:=ok.ends x hx;unfold je;split
 ·rename_i hz;exact⟨h,Dv.refl _,fun h=>absurd hz h⟩
 rename_i hz;obtain⟨l,s,e1,e2,e3,e4⟩:=h.walk x.src p1 hz;split
 ·rename_i hb;have hne:(iD v st x.src).1++[x.dst]≠[]:=by simp
  refine⟨⟨by rw [List.length_set];exact h.len,fun t ht hh=> ?_⟩,fun t ht hh=> ?_,fun _=> ?_⟩
  ·rw [AL st h.len p2 ht] at hh ⊢;split
   ·rename_i et;subst et;refine⟨l++[x.dst],(s.1+(x.min+0),s.2+(x.max+0)),by rw [e1];rfl,lZ.2 ⟨s,(x.min+0,x.max+0),e2,?_,rfl⟩,?_,fC _ _ _⟩
    ·rw [e4];exact dS.2 ⟨x,(0,0),ok.lkOf hx,rfl,rfl⟩
    ·show s.1+(x.min+0)=_+x.min;rw [e3];omega
   ·rename_i et;rw [if_neg et] at hh;exact h.walk t ht hh
  ·rw [AL st h.len p2 ht];split
   ·rename_i et;subst et;exact⟨hne,NQ hb hh⟩
   ·exact⟨hh,wN _ _⟩
  ·rw [AL st h.len p2 p2,if_pos rfl];exact⟨hne,wN _ _⟩
 ·rename_i hb;have hb:=KS (by simpa using hb);exact⟨h,Dv.refl _,fun _=>hb⟩
theorem CV (ok:aV v) {a:Bytes}: ∀(ls:List Lk) {st:St},(∀x∈ls,x∈v.lks)→Nw v a st→Nw v a (ls.foldl (je v) st)∧Dv v (ls.foldl (je v) st) st∧
  ∀x∈ls,∀d p,p≠[]→(iD v st x.src).1≠[]→Ed (iD v st x.src).2 (iD v st x.src).1 d p→(iD v (ls.foldl (je v) st) x.dst).1≠[]∧Ed (iD v (ls.foldl (je v) st) x.dst).2 (iD v (ls.foldl (je v) st) x.dst).1 (d+x.min) (p++[x.dst])
 | [],st,_,h=>⟨h,Dv.refl _,by simp⟩
 | y::ls,st,hl,h=>by
  obtain⟨s1,s2,s3⟩:=Q4 ok h (hl y List.mem_cons_self);obtain⟨i1,i2,i3⟩:=CV ok ls (fun z hz=>hl z (List.mem_cons_of_mem _ hz)) s1;rw [List.foldl_cons];refine⟨i1,i2.trans s2,fun x hx d p hp hne hb=> ?_⟩;rcases List.mem_cons.1 hx with rfl | hx
  ·obtain⟨q1,q2⟩:=s3 hne;obtain⟨r1,r2⟩:=i2 x.dst (ok.ends x (hl x List.mem_cons_self)).2.1 q1;exact⟨r1,mW r2 (mW q2 (Si _ _ hb))⟩
  ·obtain⟨q1,q2⟩:=s2 x.src (ok.ends x (hl x (List.mem_cons_of_mem _ hx))).1 hne;exact i3 x hx d p hp q1 (mW q2 hb)
theorem JL (v:bn) {a:Bytes} (ha:aF v.pts a=true) {t:Bytes} (ht:aF v.pts t=true):iD v (mf v a) t=if t=a then ([a],0) else ([],0):=by
 rw [mf,AL _ (by simp) ha ht];split
 ·rfl
 ·unfold iD;rw [List.getD_eq_getElem?_getD,List.getElem?_map];cases v.pts[gI v.pts t]? <;> rfl
theorem CW (ok:aV v) {a:Bytes} (ha:aF v.pts a=true): ∀n,Nw v a (iter (tF v) n (mf v a))∧
  ∀l s,l.length≤n→wk v a l=some s→(iD v (iter (tF v) n (mf v a)) (dN a l)).1≠[]∧Ed (iD v (iter (tF v) n (mf v a)) (dN a l)).2 (iD v (iter (tF v) n (mf v a)) (dN a l)).1 s.1 (a::l)
 | 0=>by
  refine⟨⟨by simp [iter,mf],fun t ht hh=> ?_⟩,fun l s hl h=> ?_⟩
  ·rw [iter,JL v ha ht] at hh ⊢;split
   ·rename_i e;exact⟨[],(0,0),rfl,rfl,rfl,e.symm⟩
   ·rename_i e;rw [if_neg e] at hh;exact absurd rfl hh
  ·obtain rfl:l=[]:=List.length_eq_zero_iff.1 (by omega);obtain rfl:=Option.some.inj h;rw [iter,dN,JL v ha ha,if_pos rfl];exact⟨by simp,wN _ _⟩
 | n+1=>by
  obtain⟨i1,i2⟩:=CW ok ha n;obtain⟨j1,j2,j3⟩:=CV ok v.lks (fun _ h=>h) i1;refine⟨j1,fun l s hl h=> ?_⟩;rcases List.eq_nil_or_concat l with rfl | ⟨l',b,rfl⟩
  ·obtain⟨q1,q2⟩:=i2 [] s (by simp) h;obtain⟨r1,r2⟩:=j2 _ ha q1;exact⟨r1,mW r2 q2⟩
  ·rw [List.concat_eq_append] at h hl ⊢;obtain⟨t,u,h1,h2,rfl⟩:=lZ.1 h;obtain⟨x,w,h3,h4,rfl⟩:=dS.1 h2;obtain rfl:=Option.some.inj h4;obtain⟨m,e1,e2⟩:=fO h3;obtain⟨q1,q2⟩:=i2 l' t (by simp at hl;omega) h1;rw [←e1] at q1 q2;have:=j3 x m t.1 (a::l') (by simp) q1 q2;have e:iter (tF v) (n+1) (mf v a)=v.lks.foldl (je v) (iter (tF v) n (mf v a)):=rfl;rw [fC,←e2,e];simpa using this
theorem xE (ok:aV v) {a b:Bytes} (ha:aF v.pts a=true)(hb:aF v.pts b=true):
  ((iD v (Nq v a) b).1=[]→ ∀l s,wk v a l=some s→dN a l≠b)∧((iD v (Nq v a) b).1≠[]→ ∃l,(iD v (Nq v a) b).1=a::l∧rD v a b l (iD v (Nq v a) b).2):=by
 obtain⟨i1,i2⟩:=CW ok ha v.pts.length;have key: ∀l s,wk v a l=some s→dN a l=b→(iD v (Nq v a) b).1≠[]∧Ed (iD v (Nq v a) b).2 (iD v (Nq v a) b).1 s.1 (a::l):=by
  intro l s h he;obtain⟨l',s',q1,q2,q3,_,q5⟩:=mY ok _ a l s (Nat.le_refl _) h;have hl:=qK ok q1 ha q3;obtain⟨r1,r2⟩:=i2 l' s' (by omega) q1;rw [q2,he] at r1 r2;refine⟨r1,?_⟩;rcases q5 with rfl | ⟨q5,_⟩
  ·rw [q1] at h;obtain rfl:=Option.some.inj h;exact r2
  ·exact mW r2 (.inl q5)
 refine⟨fun hz l s h he=>(key l s h he).1 hz,fun hz=> ?_⟩;obtain⟨l,s,e1,e2,e3,e4⟩:=i1.walk b hb hz;refine⟨l,e1,⟨s,e2,e3⟩,e4,fun l' s' h he=> ?_⟩;have:=(key l' s' h he).2;rw [show (iD v (Nq v a) b).1=a::l from e1] at this;exact this
theorem KR (ok:aV v) {a b:Bytes} {l:List Bytes} {d:Int} (ha:aF v.pts a=true)(hb:aF v.pts b=true)(h:rD v a b l d):iL v a b=some (a::l,d):=by
 obtain⟨r1,r2⟩:=xE ok ha hb;unfold iL;rw [if_pos ⟨ha,hb⟩];split
 ·rename_i hz;obtain⟨s,w1,_⟩:=h.walk;exact absurd h.ends (r1 hz l s w1)
 ·rename_i hz;obtain⟨l',e1,e2⟩:=r2 hz;obtain⟨rfl,e3⟩:=e2.uniq h;rw [←e1,←e3]
theorem KQ (ok:aV v) {a b:Bytes} (h: ∀l s,wk v a l=some s→dN a l≠b):iL v a b=none:=by
 unfold iL;split
 ·rename_i hh;obtain⟨r1,r2⟩:=xE ok hh.1 hh.2;split
  ·rfl
  ·rename_i hz;obtain⟨l,e1,e2⟩:=r2 hz;obtain⟨s,w1,_⟩:=e2.walk;exact absurd e2.ends (h l s w1)
 ·rfl
theorem Bf (ok:aV v)(a b:Bytes):(∃l d,iL v a b=some (a::l,d)∧rD v a b l d∧aF v.pts a=true∧aF v.pts b=true)∨(iL v a b=none∧(aF v.pts a=true→aF v.pts b=true→ ¬PP v a b)):=by
 by_cases hh:aF v.pts a=true∧aF v.pts b=true
 ·obtain⟨r1,r2⟩:=xE ok hh.1 hh.2;by_cases hz:(iD v (Nq v a) b).1=[]
  ·right
   refine⟨by unfold iL;rw [if_pos hh,if_pos hz],fun _ _ ⟨l,s,h1,h2⟩=>r1 hz l s h1 h2⟩
  ·left
   obtain⟨l,e1,e2⟩:=r2 hz;refine⟨l,(iD v (Nq v a) b).2,?_,e2,hh⟩;unfold iL;rw [if_pos hh,if_neg hz,←e1]
 ·right
  refine⟨by unfold iL;rw [if_neg hh],fun h1 h2=>absurd ⟨h1,h2⟩ hh⟩
def OW (v:bn)(a:Bytes)(r i:Nat):St:=(v.lks.take i).foldl (je v) (iter (tF v) r (mf v a))
theorem Q3 (v:bn)(a:Bytes):OW v a 0 0=mf v a:=rfl
theorem Q0 {v:bn} {i:Nat} {x:Lk} (a:Bytes)(r:Nat)(h:v.lks[i]? =some x):OW v a r (i+1)=je v (OW v a r i) x:=by
 rw [OW,zM,h,Option.toList_some,List.foldl_append];rfl
theorem Nn (v:bn)(a:Bytes)(r:Nat):OW v a r v.lks.length=OW v a (r+1) 0:=by
 rw [OW,List.take_length];rfl
theorem QY (v:bn)(a:Bytes):OW v a v.pts.length 0=Nq v a:=rfl
theorem QZ (ok:aV v) {a:Bytes} (ha:aF v.pts a=true)(r i:Nat):Nw v a (OW v a r i):=
 (CV ok _ (fun x hx=>List.mem_of_mem_take hx) (CW ok ha r).1).1
theorem Ig {st:St} {n:Nat} (h: ∀y∈st,y.1.length≤n)(t:Bytes):(iD v st t).1.length≤n:=by
 unfold iD;rw [List.getD_eq_getElem?_getD]
 cases e:st[gI v.pts t]? with
 | none=>simp
 | some y=>exact h y (zF e)
theorem OX {st:St} {n:Nat} (h: ∀y∈st,y.1.length≤n)(x:Lk): ∀y∈je v st x,y.1.length≤n+1:=by
 intro y hy;unfold je at hy;split at hy
 ·exact Nat.le_succ_of_le (h y hy)
 ·split at hy
  ·rcases List.mem_or_eq_of_mem_set hy with hy | rfl
   ·exact Nat.le_succ_of_le (h y hy)
   ·have:=Ig (v:=v) h x.src;simp;omega
  ·exact Nat.le_succ_of_le (h y hy)
theorem yH: ∀(ls:List Lk) {st:St} {n:Nat},(∀y∈st,y.1.length≤n)→ ∀y∈ls.foldl (je v) st,y.1.length≤n+ls.length
 | [],st,n,h=>fun y hy=>h y hy
 | x::ls,st,n,h=>fun y hy=>by
  have:=yH ls (OX (v:=v) h x) y hy;simp;omega
theorem Np (hl:v.lks.length≤128)(a:Bytes): ∀r i,i≤v.lks.length→ ∀y∈OW v a r i,y.1.length≤1+128*r+i
 | 0,i,hi=>fun y hy=>by
  have h0: ∀y∈mf v a,y.1.length≤1:=fun y hy=>by
   unfold mf at hy;rcases List.mem_or_eq_of_mem_set hy with hy | rfl
   ·obtain⟨_,_,rfl⟩:=List.mem_map.1 hy;simp
   ·simp
  have:=yH (v:=v) (v.lks.take i) h0 y hy;simp at this ⊢;omega
 | r+1,i,hi=>fun y hy=>by
  have h0:=Np hl a r v.lks.length (Nat.le_refl _);rw [Nn] at h0;have:=yH (v:=v) (v.lks.take i) h0 y hy;simp at this ⊢;omega
theorem Ie {st:St} (hl:st.length=v.pts.length) {t:Bytes} (ht:aF v.pts t=true):st[gI v.pts t]? =some (iD v st t):=by
 have h:gI v.pts t<st.length:=by rw [hl];exact qD ht
 unfold iD;rw [List.getD_eq_getElem?_getD,zB h];rfl
def Uf (st:St):List (List (List AV)):=st.map fun y=>y.1.map aO
def KE (st:St):List (List AV):=st.map fun y=>[.int .i64 y.2]
theorem Ns (st:St):(KE st).length=st.length:=by simp [KE]
theorem Tj (st:St)(k:Nat)(y:List Bytes×Int):Uf (st.set k y)=(Uf st).set k (y.1.map aO):=by simp [Uf,List.map_set]
theorem Ti (st:St)(k:Nat)(y:List Bytes×Int):KE (st.set k y)=(KE st).set k [.int .i64 y.2]:=by simp [KE,List.map_set]
theorem AO {st:St} {k:Nat} {y:List Bytes×Int} (h:st[k]? =some y):(Uf st)[k]? =some (y.1.map aO):=by rw [Uf,List.getElem?_map,h];rfl
theorem Ic {st:St} {k:Nat} {y:List Bytes×Int} (h:st[k]? =some y):(KE st)[k]? =some [.int .i64 y.2]:=by rw [KE,List.getElem?_map,h];rfl
def st0 (n:Nat):St:=List.replicate n ([],0)
theorem Xw (n:Nat):Uf (st0 n)=List.replicate n []:=by simp [Uf,st0]
theorem Ue (n:Nat):KE (st0 n)=List.replicate n [.int .i64 0]:=by simp [KE,st0]
theorem QX (v:bn)(a:Bytes):mf v a=(st0 v.pts.length).set (gI v.pts a) ([a],0):=by
 rw [mf];congr 1
 exact List.eq_replicate_iff.2 ⟨by simp,fun b hb=>by simp at hb;exact hb.2.symm⟩
end
end Go.Toll
end
section
namespace Go.Toll
open Go Go.Abs
def lastT (p:List Bytes):Bytes:=p.getLast?.getD []
@[simp] theorem jA (p:List Bytes) (x:Bytes):lastT (p++[x])=x:=by simp [lastT]
@[simp] theorem VX (x:Bytes):lastT [x]=x:=rfl
theorem Ff {p:List Bytes} (h:p≠[]):lastT p∈p:=by
 rcases List.eq_nil_or_concat p with rfl | ⟨q,x,rfl⟩
 ·exact absurd rfl h
 ·rw [List.concat_eq_append,jA];simp
def sj (st:List Bytes×List Bytes)(x:Bytes):List Bytes×List Bytes:=if x∈st.1 then st else (st.1++[x],st.2++[x])
def lm (v:bn)(st:List Bytes×List Bytes)(y:Bytes):List Bytes×List Bytes:=(dR v y).foldl sj st
def yc (v:bn)(seen front:List Bytes):List Bytes×List Bytes:=front.foldl (lm v) (seen,[])
def Qc (v:bn)(t:Bytes):Nat→List Bytes→List Bytes→Bool
 | 0,_,_=>false
 | n+1,seen,front=>if t∈front then true else Qc v t n (yc v seen front).1 (yc v seen front).2
def lU (v:bn)(p:List Bytes)(t:Bytes):Bool:=Qc v t (17 - p.length) p [lastT p]
def Rk (v:bn)(p:List Bytes)(a:Bytes)(k:Nat)(x:Bytes):Prop:= ∃w s,wk v a w=some s∧dN a w=x∧(∀z∈w,z∉p)∧w.length=k
section
variable {v : bn}
theorem KX (xs:List Bytes): ∀st:List Bytes×List Bytes,(∀x,x∈(xs.foldl sj st).1↔x∈st.1∨x∈xs)∧(∀x,x∈(xs.foldl sj st).2↔x∈st.2∨(x∈xs∧x∉st.1)):=by
 induction xs with
 | nil=>intro st;simp
 | cons y xs ih=>
  intro st;obtain⟨i1,i2⟩:=ih (sj st y);rw [List.foldl_cons];by_cases h:y∈st.1
  ·rw [show sj st y=st by rw [sj,if_pos h]] at i1 i2 ⊢;refine⟨fun x=> ?_,fun x=> ?_⟩
   ·rw [i1,List.mem_cons];constructor
    ·rintro (a | a);exact .inl a;exact .inr (.inr a)
    ·rintro (a | rfl | a);exact .inl a;exact .inl h;exact .inr a
   ·rw [i2,List.mem_cons];constructor
    ·rintro (a | ⟨a,b⟩);exact .inl a;exact .inr ⟨.inr a,b⟩
    ·rintro (a | ⟨rfl | a,b⟩);exact .inl a;exact absurd h b;exact .inr ⟨a,b⟩
  ·rw [show sj st y=(st.1++[y],st.2++[y]) by rw [sj,if_neg h]] at i1 i2 ⊢;refine⟨fun x=> ?_,fun x=> ?_⟩
   ·rw [i1,List.mem_cons,List.mem_append,List.mem_singleton,or_assoc]
   ·rw [i2,List.mem_cons,List.mem_append,List.mem_singleton,List.mem_append,List.mem_singleton];constructor
    ·rintro ((a | rfl) | ⟨a,b⟩)
     ·exact .inl a
     ·exact .inr ⟨.inl rfl,h⟩
     ·exact .inr ⟨.inr a,fun c=>b (.inl c)⟩
    ·rintro (a | ⟨rfl | a,b⟩)
     ·exact .inl (.inl a)
     ·exact .inl (.inr rfl)
     ·by_cases e:x=y
      ·exact .inl (.inr e)
      ·exact .inr ⟨a,by rintro (c | c);exact b c;exact e c⟩
theorem IX (v:bn)(ys:List Bytes): ∀st:List Bytes×List Bytes,(∀x∈st.2,x∈st.1)→
  (∀x,x∈(ys.foldl (lm v) st).1↔x∈st.1∨ ∃y∈ys,x∈dR v y)∧(∀x,x∈(ys.foldl (lm v) st).2↔x∈st.2∨((∃y∈ys,x∈dR v y)∧x∉st.1)):=by
 induction ys with
 | nil=>intro st _;simp
 | cons y ys ih=>
  intro st hst;obtain⟨a1,a2⟩:=KX (dR v y) st;have hst': ∀x∈(lm v st y).2,x∈(lm v st y).1:=fun x hx=>by
   rw [lm,a2] at hx;rw [lm,a1];rcases hx with hx | hx
   ·exact .inl (hst x hx)
   ·exact .inr hx.1
  obtain⟨i1,i2⟩:=ih (lm v st y) hst';rw [List.foldl_cons];refine⟨fun x=> ?_,fun x=> ?_⟩
  ·rw [i1,lm,a1,or_assoc];simp
  ·rw [i2,lm,a1,a2];constructor
   ·rintro ((h | ⟨h,h'⟩) | ⟨⟨z,hz,h⟩,h'⟩)
    ·exact .inl h
    ·exact .inr ⟨⟨y,by simp,h⟩,h'⟩
    ·exact .inr ⟨⟨z,by simp [hz],h⟩,fun c=>h' (.inl c)⟩
   ·rintro (h | ⟨⟨z,hz,h⟩,h'⟩)
    ·exact .inl (.inl h)
    ·by_cases e:x∈dR v y
     ·exact .inl (.inr ⟨e,h'⟩)
     ·rcases List.mem_cons.1 hz with rfl | hz
      ·exact absurd h e
      ·exact .inr ⟨⟨z,hz,h⟩,by rintro (c | c);exact h' c;exact e c⟩
theorem KY (v:bn)(seen front:List Bytes):(∀x,x∈(yc v seen front).1↔x∈seen∨ ∃y∈front,x∈dR v y)∧(∀x,x∈(yc v seen front).2↔((∃y∈front,x∈dR v y)∧x∉seen)):=by
 obtain⟨h1,h2⟩:=IX v front (seen,[]) (by simp);exact⟨h1,fun x=>by rw [yc,h2];simp⟩
theorem Rk.step (ok:aV v) {p:List Bytes} {a y x:Bytes} {k:Nat} (h:Rk v p a k y)(hx:x∈dR v y)(hp:x∉p):Rk v p a (k+1) x:=by
 obtain⟨w,s,h1,rfl,h3,h4⟩:=h;obtain⟨z,hz⟩:=(yz ok _ _).1 hx;refine⟨w++[x],_,lZ.2 ⟨s,(z.min+0,z.max+0),h1,dS.2 ⟨z,(0,0),hz,rfl,rfl⟩,rfl⟩,fC _ _ _,fun u hu=> ?_,by simp [h4]⟩;rcases List.mem_append.1 hu with hu | hu
 ·exact h3 u hu
 ·rw [List.mem_singleton.1 hu];exact hp
theorem Rk.back (ok:aV v) {p:List Bytes} {a x:Bytes} {k:Nat} (h:Rk v p a (k+1) x): ∃y,Rk v p a k y∧x∈dR v y∧x∉p∧(y∈p→k=0∧y=a):=by
 obtain⟨w,s,h1,h2,h3,h4⟩:=h;rcases List.eq_nil_or_concat w with rfl | ⟨w',b,rfl⟩
 ·simp at h4
 ·rw [List.concat_eq_append] at h1 h2 h3 h4;rw [fC] at h2;subst h2;obtain⟨t,u,e1,e2,_⟩:=lZ.1 h1;obtain⟨z,_,e3,_,_⟩:=dS.1 e2;refine⟨dN a w',⟨w',t,e1,rfl,fun z hz=>h3 z (by simp [hz]),by simpa using h4⟩,(yz ok _ _).2 ⟨z,e3⟩,h3 _ (by simp),fun hy=> ?_⟩
  cases w' with
  | nil=>exact⟨by simp at h4;omega,rfl⟩
  | cons c w'=>exact absurd hy (h3 _ (by have:=oN c w';show dN c w'∈_;rw [List.mem_append];exact .inl this))
theorem Rk.zero {p:List Bytes} {a x:Bytes} (h:Rk v p a 0 x):x=a:=by
 obtain⟨w,s,h1,h2,h3,h4⟩:=h;obtain rfl:=List.length_eq_zero_iff.1 h4;exact h2.symm
theorem Rk.out {p:List Bytes} {a x:Bytes} {k:Nat} (h:Rk v p a k x):x=a∨x∉p:=by
 obtain⟨w,s,h1,h2,h3,h4⟩:=h
 cases w with
 | nil=>exact .inl h2.symm
 | cons b w=>
  right
  rw [←h2];exact h3 _ (oN b w)
theorem ET (ok:aV v)(t:Bytes)(p:List Bytes)(a:Bytes)(ha:a∈p): ∀(n k:Nat) (seen front:List Bytes),(∀x∈front,Rk v p a k x)→(∀x∈p,x∈seen)→(∀x,(∃j,j≤k∧Rk v p a j x)→x∈seen)→
  (∀x∈seen,x∈front∨(∀y∈dR v x,y∈seen)∨(x∈p∧x≠a))→(t∈seen→t∈front∨(t∈p∧t≠a))→(∀j,j<k→ ¬Rk v p a j t)→
  (Qc v t n seen front=true↔ ∃j,j<k+n∧Rk v p a j t)
 | 0,k,seen,front,i1,i2,i3,i4,i5,i6=>by
  simp only [Qc,Bool.false_eq_true,false_iff];rintro⟨j,hj,h⟩;exact i6 j (by omega) h
 | n+1,k,seen,front,i1,i2,i3,i4,i5,i6=>by
  rw [Qc];by_cases hf:t∈front
  ·rw [if_pos hf];simp only [true_iff];exact⟨k,by omega,i1 t hf⟩
  ·rw [if_neg hf];obtain⟨l1,l2⟩:=KY v seen front;have hk: ¬Rk v p a k t:=fun h=>by
    rcases i5 (i3 t ⟨k,by omega,h⟩) with h1 | ⟨h1,h2⟩
    ·exact hf h1
    ·rcases h.out with h3 | h3
     ·exact h2 h3
     ·exact h3 h1
   rw [ET ok t p a ha n (k+1) _ _ ?_ ?_ ?_ ?_ ?_ ?_]
   ·constructor
    ·rintro⟨j,hj,h⟩;exact⟨j,by omega,h⟩
    ·rintro⟨j,hj,h⟩;exact⟨j,by omega,h⟩
   ·intro x hx;obtain⟨⟨y,hy,hxy⟩,hxs⟩:=(l2 x).1 hx;exact (i1 y hy).step ok hxy fun hp=>hxs (i2 x hp)
   ·intro x hx;exact (l1 x).2 (.inl (i2 x hx))
   ·rintro x ⟨j,hj,h⟩;rw [l1];rcases zN k j with hjk | hjk
    ·obtain rfl:j=k+1:=by omega
     obtain⟨y,hy,hxy,hxp,hyp⟩:=h.back ok;have hys:=i3 y ⟨k,by omega,hy⟩;rcases i4 y hys with h1 | h1 | ⟨h1,h2⟩
     ·exact .inr ⟨y,h1,hxy⟩
     ·exact .inl (h1 x hxy)
     ·exact absurd (hyp h1).2 h2
    ·exact .inl (i3 x ⟨j,hjk,h⟩)
   ·intro x hx;rw [l1] at hx;by_cases hm:x∈(yc v seen front).2
    ·exact .inl hm
    ·have hxs:x∈seen:=by
      rcases hx with hx | hx
      ·exact hx
      ·exact Classical.byContradiction fun hc=>hm ((l2 x).2 ⟨hx,hc⟩)
     rcases i4 x hxs with h1 | h1 | h1
     ·exact .inr (.inl fun y hy=>(l1 y).2 (.inr ⟨x,h1,hy⟩))
     ·exact .inr (.inl fun y hy=>(l1 y).2 (.inl (h1 y hy)))
     ·exact .inr (.inr h1)
   ·intro hx;rw [l1] at hx;by_cases hts:t∈seen
    ·rcases i5 hts with h1 | h1
     ·exact absurd h1 hf
     ·exact .inr h1
    ·rcases hx with hx | hx
     ·exact absurd hx hts
     ·exact .inl ((l2 t).2 ⟨hx,hts⟩)
   ·intro j hj h;rcases zN j k with h1 | h1
    ·exact i6 j h1 h
    ·obtain rfl:j=k:=by omega
     exact hk h
theorem KV (ok:aV v)(t:Bytes) {p:List Bytes} (hp:p≠[]):lU v p t=true↔ ∃k,Rk v p (lastT p) k t∧p.length+k≤16:=by
 rw [lU,ET ok t p (lastT p) (Ff hp) (17 - p.length) 0 p [lastT p]]
 ·constructor
  ·rintro⟨j,hj,h⟩;exact⟨j,h,by omega⟩
  ·rintro⟨j,h,hj⟩;exact⟨j,by omega,h⟩
 ·intro x hx;rw [List.mem_singleton.1 hx];exact⟨[],(0,0),rfl,rfl,by simp,rfl⟩
 ·exact fun x hx=>hx
 ·rintro x ⟨j,hj,h⟩;obtain rfl:j=0:=by omega
  rw [h.zero];exact Ff hp
 ·intro x hx;by_cases e:x=lastT p
  ·exact .inl (by simp [e])
  ·exact .inr (.inr ⟨hx,e⟩)
 ·intro ht;by_cases e:t=lastT p
  ·exact .inl (by simp [e])
  ·exact .inr ⟨ht,e⟩
 ·intro j hj;omega
end
def jT (v:bn)(t:Bytes):Nat→List Bytes→List (List Bytes)→List (List Bytes)
 | 0,path,found=>if lastT path=t then found++[path] else found
 | n+1,path,found=>if lastT path=t then found++[path] else (dR v (lastT path)).foldl (fun f x=>if f.length≤1024∧x∉path∧lU v (path++[x]) t=true then jT v t n (path++[x]) f else f) found
def fD (v:bn)(a b:Bytes):List (List Bytes)×Int:=
 if aF v.pts a=true∧aF v.pts b=true then (if 1024<(jT v b 15 [a] []).length then ([],3) else (jT v b 15 [a] [],0)) else ([],16)
structure EE (v:bn)(path:List Bytes)(t:Bytes)(q:List Bytes):Prop where
 ex: ∃w s,q=path++w∧wk v (lastT path) w=some s∧dN (lastT path) w=t∧(∀z∈w,z∉path)∧w.Nodup∧q.length≤16
section
variable {v : bn}
theorem BC (ok:aV v)(t:Bytes)(n:Nat)(path:List Bytes)(hp:path≠[])
  (ih: ∀x f,x∉path→x∈dR v (lastT path)→lU v (path++[x]) t=true→ ∃new,jT v t n (path++[x]) f=f++new∧(∀q∈new,EE v (path++[x]) t q)∧new.Pairwise fun a b=>dQ a b<0):
  ∀(xs:List Bytes) (f:List (List Bytes)),oH xs→xs.Nodup→(∀x∈xs,x∈dR v (lastT path))→
   ∃new,xs.foldl (fun f x=>if f.length≤1024∧x∉path∧lU v (path++[x]) t=true then jT v t n (path++[x]) f else f) f=f++new∧
    (∀q∈new,∃x∈xs,x∉path∧EE v (path++[x]) t q)∧new.Pairwise fun a b=>dQ a b<0
 | [],f,_,_,_=>⟨[],by simp,by simp,.nil⟩
 | x::xs,f,ha,hn,hm=>by
  obtain⟨a1,a2⟩:=List.pairwise_cons.1 ha;obtain⟨n1,n2⟩:=List.nodup_cons.1 hn;rw [List.foldl_cons];by_cases hc:f.length≤1024∧x∉path∧lU v (path++[x]) t=true
  ·rw [if_pos hc];obtain⟨new,e1,e2,e3⟩:=ih x f hc.2.1 (hm x List.mem_cons_self) hc.2.2;obtain⟨new',i1,i2,i3⟩:=BC ok t n path hp ih xs (jT v t n (path++[x]) f) a2 n2 fun y hy=>hm y (List.mem_cons_of_mem _ hy);refine⟨new++new',by rw [i1,e1,zK],fun q hq=> ?_,List.pairwise_append.2 ⟨e3,i3,fun q hq r hr=> ?_⟩⟩
   ·rcases List.mem_append.1 hq with hq | hq
    ·exact⟨x,List.mem_cons_self,hc.2.1,e2 q hq⟩
    ·obtain⟨y,hy,h⟩:=i2 q hq;exact⟨y,List.mem_cons_of_mem _ hy,h⟩
   ·obtain⟨w,s,rfl,_⟩:=(e2 q hq).ex;obtain⟨y,hy,_,hY⟩:=i2 r hr;obtain⟨w',s',rfl,_⟩:=hY.ex;rw [zK,zK,QR];show dQ (x::w) (y::w')<0;have hle:lS x y≤0:=(MP x y).2 (of_decide_eq_true (a1 y hy));have hne:lS x y≠0:=fun e=>n1 (iG.1 e▸hy);rw [dQ,if_neg hne];omega
  ·rw [if_neg hc];obtain⟨new',i1,i2,i3⟩:=BC ok t n path hp ih xs f a2 n2 fun y hy=>hm y (List.mem_cons_of_mem _ hy);exact⟨new',i1,fun q hq=>by obtain⟨y,hy,h⟩:=i2 q hq;exact⟨y,List.mem_cons_of_mem _ hy,h⟩,i3⟩
theorem EE.cons (ok:aV v) {path:List Bytes} {t x:Bytes} {q:List Bytes} (hx:x∈dR v (lastT path))(hp:x∉path)(h:EE v (path++[x]) t q):EE v path t q:=by
 obtain⟨w,s,rfl,h1,h2,h3,h4,h5⟩:=h.ex;rw [jA] at h1 h2;obtain⟨z,hz⟩:=(yz ok _ _).1 hx;refine⟨x::w,_,by simp,dS.2 ⟨z,s,hz,h1,rfl⟩,h2,fun u hu=> ?_,List.nodup_cons.2 ⟨fun hm=> ?_,h4⟩,h5⟩
 ·rcases List.mem_cons.1 hu with rfl | hu
  ·exact hp
  ·exact fun hc=>h3 u hu (by simp [hc])
 ·exact h3 x hm (by simp)
theorem EY (ok:aV v)(t:Bytes): ∀(n:Nat) (path:List Bytes) (f:List (List Bytes)),path≠[]→path.length+n=16→
  ∃new,jT v t n path f=f++new∧(∀q∈new,EE v path t q)∧new.Pairwise fun a b=>dQ a b<0
 | 0,path,f,hp,hl=>by
  rw [jT];split
  ·rename_i e;exact⟨[path],rfl,fun q hq=>⟨[],(0,0),by rw [List.mem_singleton.1 hq];simp,rfl,e,by simp,by simp,by rw [List.mem_singleton.1 hq];omega⟩,List.pairwise_singleton _ _⟩
  ·exact⟨[],by simp,by simp,.nil⟩
 | n+1,path,f,hp,hl=>by
  rw [jT];split
  ·rename_i e;exact⟨[path],rfl,fun q hq=>⟨[],(0,0),by rw [List.mem_singleton.1 hq];simp,rfl,e,by simp,by simp,by rw [List.mem_singleton.1 hq];omega⟩,List.pairwise_singleton _ _⟩
  ·obtain⟨new,e1,e2,e3⟩:=BC ok t n path hp (fun x f hx hm hc=>EY ok t n (path++[x]) f (by simp) (by simp;omega)) _ f (OI v _) (ok.nextnd _) fun x hx=>hx;refine⟨new,e1,fun q hq=> ?_,e3⟩;obtain⟨x,hx,hxp,h⟩:=e2 q hq;exact h.cons ok hx hxp
theorem zw (ok:aV v)(a b:Bytes):(fD v a b).1.length≤1024∧((fD v a b).1.Pairwise fun p q=>dQ p q<0)∧
  ∀q∈(fD v a b).1,∃l s,q=a::l∧wk v a l=some s∧dN a l=b∧q.Nodup∧q.length≤16∧aF v.pts a=true∧aF v.pts b=true:=by
 obtain⟨new,e1,e2,e3⟩:=EY ok b 15 [a] [] (by simp) rfl;unfold fD;split
 ·rename_i hh;split
  ·simp
  ·rename_i hl;refine⟨by show (jT v b 15 [a] []).length≤1024;omega,by show (jT v b 15 [a] []).Pairwise _;rw [e1];exact e3,fun q hq=> ?_⟩;have hq:q∈jT v b 15 [a] []:=hq;rw [e1] at hq;obtain⟨w,s,rfl,h1,h2,h3,h4,h5⟩:=(e2 q hq).ex;exact⟨w,s,rfl,h1,h2,List.nodup_cons.2 ⟨fun hm=>h3 a hm (by simp),h4⟩,h5,hh⟩
 ·simp
def Ej (v:bn)(t:Bytes)(n:Nat)(path:List Bytes)(f:List (List Bytes))(x:Bytes):List (List Bytes):=
 if f.length≤1024∧x∉path∧lU v (path++[x]) t=true then (match n with | 0=>f | n+1=>jT v t n (path++[x]) f) else f
def yg (v:bn)(t:Bytes)(n:Nat)(path:List Bytes)(f:List (List Bytes))(k:Nat):List (List Bytes):=((dR v (lastT path)).take k).foldl (Ej v t n path) f
theorem BB {v:bn} {t:Bytes} {n:Nat} {path:List Bytes} {f:List (List Bytes)} {x:Bytes} (h: ¬(f.length≤1024∧x∉path∧lU v (path++[x]) t=true)):Ej v t n path f x=f:=by
 unfold Ej;rw [if_neg h]
theorem Qi {v:bn} {t:Bytes} {n:Nat} {path:List Bytes} {f:List (List Bytes)} {x:Bytes} (h:f.length≤1024∧x∉path∧lU v (path++[x]) t=true):Ej v t (n+1) path f x=jT v t n (path++[x]) f:=by
 unfold Ej;rw [if_pos h]
theorem Oa (v:bn)(t:Bytes)(n:Nat)(path:List Bytes)(f:List (List Bytes)):yg v t n path f 0=f:=rfl
theorem EX {v:bn} {t:Bytes} {n:Nat} {path:List Bytes} {f:List (List Bytes)} {k:Nat} {x:Bytes} (h:(dR v (lastT path))[k]? =some x):yg v t n path f (k+1)=Ej v t n path (yg v t n path f k) x:=by
 rw [yg,zM,h,Option.toList_some,List.foldl_append];rfl
theorem Qh {v:bn} {t:Bytes} {n:Nat} {path:List Bytes} {f:List (List Bytes)} (h:lastT path≠t):yg v t n path f (dR v (lastT path)).length=jT v t n path f:=by
 rw [yg,List.take_length]
 cases n with
 | zero=>
  rw [jT,if_neg h];generalize dR v (lastT path)=l
  induction l with
  | nil=>rfl
  | cons x l ih=>
   rw [List.foldl_cons];have:Ej v t 0 path f x=f:=by unfold Ej;split <;> rfl
   rw [this,ih]
 | succ n=>rw [jT,if_neg h];rfl
theorem Ob {v:bn} {t:Bytes} {n:Nat} {path:List Bytes} {f:List (List Bytes)} (h:lastT path=t):jT v t n path f=f++[path]:=by
 cases n <;> rw [jT,if_pos h]
theorem MZ (v:bn)(t:Bytes): ∀(n:Nat) (path:List Bytes) (f:List (List Bytes)),f.length≤1024→(jT v t n path f).length≤1025
 | 0,path,f,h=>by
  rw [jT];split
  ·simp;omega
  ·omega
 | n+1,path,f,h=>by
  rw [jT];split
  ·simp;omega
  ·have: ∀(l:List Bytes) (f:List (List Bytes)),f.length≤1025→(l.foldl (fun f x=>if f.length≤1024∧x∉path∧lU v (path++[x]) t=true then jT v t n (path++[x]) f else f) f).length≤1025:=by
    intro l
    induction l with
    | nil=>intro f h;exact h
    | cons x l ih=>
     intro f h;rw [List.foldl_cons];refine ih _ ?_;split
     ·rename_i hc;exact MZ v t n _ f hc.1
     ·exact h
   exact this _ f (by omega)
theorem Sv (v:bn)(t:Bytes)(n:Nat)(path:List Bytes)(f:List (List Bytes))(x:Bytes)(h:f.length≤1025):(Ej v t n path f x).length≤1025:=by
 unfold Ej;split
 ·rename_i hc
  cases n with
  | zero=>exact h
  | succ n=>exact MZ v t n _ f hc.1
 ·exact h
theorem GD (v:bn)(t:Bytes)(n:Nat)(path:List Bytes)(f:List (List Bytes))(h:f.length≤1025): ∀k,(yg v t n path f k).length≤1025
 | 0=>h
 | k+1=>by
  cases e:(dR v (lastT path))[k]? with
  | none=>
   have:yg v t n path f (k+1)=yg v t n path f k:=by rw [yg,yg,zM,e];simp
   rw [this];exact GD v t n path f h k
  | some x=>rw [EX e];exact Sv v t n path _ x (GD v t n path f h k)
end
end Go.Toll
end
section
namespace Go.Toll
open Go Go.Abs
structure jE where
 to:Int
 min:Int
 max:Int
 deriving DecidableEq
def bH (r:jE):List AV:=[.int .i64 r.to,.int .i64 r.min,.int .i64 r.max]
@[simp] theorem TH (r:jE):(bH r).length=3:=rfl
@[simp] theorem Bu (r:jE):bH r=[.int .i64 r.to,.int .i64 r.min,.int .i64 r.max]:=rfl
def iq (n:Nat):AV:= .int .i64 (n:Int)
def aZ (v:bn)(s:Bytes):Nat:=(bB v).idxOf s
def bi (v:bn)(x:Lk):jE:=⟨aZ v x.dst,x.min,x.max⟩
def rowOf (v:bn)(s:Bytes):List jE:=(kF v s).map (bi v)
def u7 (v:bn):List (List jE):=(bB v).map (rowOf v)
def uJ:Nat→List Bytes→List (Bytes×Nat)
 | _,[]=>[]
 | i,s::l=>(s,i)::uJ (i+1) l
def Iw (v:bn):List (Bytes×Nat):=uJ 0 (bB v)
def aU (v:bn)(m:Nat):List AV:=[.ro ((bB v).map aO),.map m,.ro ((u7 v).map fun r=>[.ro (r.map bH)])]
theorem QJ: ∀(l:List Bytes) (i:Nat),(uJ i l).length=l.length
 | [],_=>rfl
 | s::l,i=>by rw [uJ,List.length_cons,QJ l (i+1)];rfl
theorem E5 (t:Bytes): ∀(l:List Bytes) (i:Nat),ik (uJ i l) t=if t∈l then some (i+l.idxOf t) else none
 | [],i=>rfl
 | s::l,i=>by
  have ih:=E5 t l (i+1);by_cases h:t=s
  ·subst h;simp [uJ,ik]
  ·have:ik (uJ i (s::l)) t=ik (uJ (i+1) l) t:=by simp [uJ,ik,h]
   rw [this,ih];by_cases hm:t∈l
   ·rw [if_pos hm,if_pos (List.mem_cons_of_mem _ hm),List.idxOf_cons];rw [show (s==t)=false by simp;exact fun e=>h e.symm];simp;omega
   ·rw [if_neg hm,if_neg (by rw [List.mem_cons];rintro (e | e);exact h e;exact hm e)]
theorem JK {α:Type}: ∀(m:List (Bytes×α)) (t:Bytes) (x:α),t∉m.map (·.1)→qE m t x=m++[(t,x)]
 | [],t,x,_=>rfl
 | p::m,t,x,h=>by
  rw [List.map_cons,List.mem_cons,not_or] at h;rw [qE,if_neg (by simpa using h.1),JK m t x h.2];rfl
theorem Fu: ∀(l:List Bytes) (i:Nat),(uJ i l).map (·.1)=l
 | [],_=>rfl
 | s::l,i=>by rw [uJ,List.map_cons,Fu l (i+1)]
theorem Fv (s:Bytes): ∀(l:List Bytes) (i:Nat),uJ i (l++[s])=uJ i l++[(s,i+l.length)]
 | [],i=>rfl
 | t::l,i=>by
  rw [List.cons_append,uJ,Fv s l (i+1),uJ];simp;omega
section
variable {v : bn}
theorem BP (v:bn)(t:Bytes):ik (Iw v) t=if aF v.pts t=true then some (aZ v t) else none:=by
 rw [Iw,E5,aZ];by_cases h:t∈bB v
 ·rw [if_pos h,if_pos ((tC v t).1 h),Nat.zero_add]
 ·rw [if_neg h,if_neg (fun h'=>h ((tC v t).2 h'))]
theorem dG {t:Bytes} (h:aF v.pts t=true):aZ v t<(bB v).length:=List.idxOf_lt_length_iff.2 ((tC v t).2 h)
theorem fQ {t:Bytes} (h:aF v.pts t=true):(bB v)[aZ v t]? =some t:=by
 have:=dG h;rw [zB this];exact congrArg some (List.getElem_idxOf this)
theorem Nl (ok:aV v) {i:Nat} {s:Bytes} (h:(bB v)[i]? =some s):aF v.pts s=true∧aZ v s=i:=by
 have hp:=(tC v s).1 (zF h);exact⟨hp,pz ok.nodup (fQ hp) h⟩
theorem gT (ok:aV v) {s t:Bytes} (hs:aF v.pts s=true)(ht:aF v.pts t=true)(h:aZ v s=aZ v t):s=t:=by
 have h1:=fQ hs;rw [h,fQ ht] at h1;exact (Option.some.inj h1).symm
theorem Ta (ok:aV v) {s t:Bytes} (hs:aF v.pts s=true)(ht:aF v.pts t=true):aZ v s≤aZ v t↔s≤t:=by
 have key: ∀ {s t:Bytes},aF v.pts s=true→aF v.pts t=true→aZ v s≤aZ v t→s≤t:=by
  intro s t hs ht h;rcases Nat.lt_or_eq_of_le h with h | h
  ·have h1:=fQ hs;have h2:=fQ ht;obtain⟨b1,c1⟩:=zA.1 h1;obtain⟨b2,c2⟩:=zA.1 h2;have:=List.pairwise_iff_getElem.1 (QW v) _ _ b1 b2 h;rw [c1,c2] at this;exact of_decide_eq_true this
  ·rw [gT ok hs ht h];exact List.le_refl t
 refine⟨key hs ht,fun h=> ?_⟩;rcases Nat.le_total (aZ v s) (aZ v t) with h1 | h1
 ·exact h1
 ·have:=List.le_antisymm h (key ht hs h1);subst this;exact Nat.le_refl _
theorem pO (v:bn):(u7 v).length=(bB v).length:=by simp [u7]
theorem mX {i:Nat} {s:Bytes} (h:(bB v)[i]? =some s):(u7 v)[i]? =some (rowOf v s):=by rw [u7,List.getElem?_map,h];rfl
theorem pM (v:bn)(s:Bytes):(rowOf v s).length≤v.lks.length:=by rw [rowOf,List.length_map];exact Oz v s
theorem yJ {v:bn} {s:Bytes} {k:Nat} {r:jE} (h:(rowOf v s)[k]? =some r): ∃x,(kF v s)[k]? =some x∧r=bi v x∧x∈v.lks∧x.src=s:=by
 rw [rowOf,List.getElem?_map,Option.map_eq_some_iff] at h;obtain⟨x,h1,h2⟩:=h;exact⟨x,h1,h2.symm,(iI v s x).1 (zF h1)⟩
theorem LY (ok:aV v)(s:Bytes):((v.lks.filter fun x=>decide (x.src=s)).map (bi v)).mergeSort (fun a b=>decide (a.to≤b.to))=rowOf v s:=by
 rw [rowOf,kF,←List.map_mergeSort (r:=fun x y:Lk=>decide (x.dst≤y.dst)) (s:=fun a b:jE=>decide (a.to≤b.to)) (f:=bi v)];intro a ha b hb;have h1:=(ok.ends a (List.mem_filter.1 ha).1).2.1;have h2:=(ok.ends b (List.mem_filter.1 hb).1).2.1;have:=Ta ok h1 h2;exact decide_eq_decide.2 (this.symm.trans (by simp [bi]))
theorem O8 (ok:aV v)(s:Bytes):(((v.lks.filter fun x=>decide (x.src=s)).map (bi v)).map (·.to)).Nodup:=by
 rw [List.map_map];have h:=ok.dstnd s;have h2:((v.lks.filter fun x=>decide (x.src=s)).map (·.dst)).Nodup:=(((List.mergeSort_perm _ _).map _).nodup_iff).1 h;refine List.pairwise_map.2 ?_;have h3:=List.pairwise_map.1 h2;refine List.Pairwise.imp_of_mem ?_ h3;intro a b ha hb hne e;have h1:=(ok.ends a (List.mem_filter.1 ha).1).2.1;have h2:=(ok.ends b (List.mem_filter.1 hb).1).2.1;simp only [Function.comp,bi] at e;exact hne (gT ok h1 h2 (by omega))
def upTo {α:Type} (l:List α)(i:Nat):List α:=l.take i
theorem PD {α:Type} {l:List α} {i:Nat} {x:α} (h:l[i]? =some x):upTo l (i+1)=upTo l i++[x]:=by rw [upTo,zM,h];rfl
theorem RO {α:Type} {l:List α} {i:Nat} (h:l.length≤i):upTo l i=l:=zG h
theorem Dj {v:bn} {s:Bytes} (ok:aV v) {k:Nat} {r:jE} (h:(rowOf v s)[k]? =some r): ∃x,(dR v s)[k]? =some x.dst∧r=bi v x∧x∈v.lks∧x.src=s∧(bB v)[aZ v x.dst]? =some x.dst∧aF v.pts x.dst=true:=by
 obtain⟨x,h1,h2,h3,h4⟩:=yJ h;have h5:=(ok.ends x h3).2.1;exact⟨x,by rw [dR,List.getElem?_map,h1];rfl,h2,h3,h4,fQ h5,h5⟩
theorem u6 (v:bn)(s:Bytes):(rowOf v s).length=(dR v s).length:=by simp [rowOf,dR]
theorem Tf (ok:aV v) {s t:Bytes} (ht:aF v.pts t=true):(kN (fun r:jE=>decide (r.to=aZ v t)) (rowOf v s)= -1∧lkOf v s t=none)∨
  ∃(k:Nat) (x:Lk),kN (fun r:jE=>decide (r.to=aZ v t)) (rowOf v s)=(k:Int)∧(rowOf v s)[k]? =some (bi v x)∧lkOf v s t=some x:=by
 rcases o8 (fun r:jE=>decide (r.to=aZ v t)) (rowOf v s) with⟨h1,h2⟩ | ⟨k,r,h1,h2,h3⟩
 ·left
  refine⟨h1,?_⟩
  cases e:lkOf v s t with
  | none=>rfl
  | some x=>
   obtain⟨m,e1,e2⟩:=fO e;have:=List.find?_eq_none.1 h2 (bi v x) (List.mem_map_of_mem ((iI v s x).2 ⟨m,e1⟩));simp [bi,e2] at this
 ·right
  obtain⟨x,x1,rfl,x3,x4,x5,x6⟩:=Dj ok h2;have hp:=List.find?_some h3;have:aZ v x.dst=aZ v t:=by have:=of_decide_eq_true hp;simp only [bi] at this;omega
  have e:=gT ok x6 ht this;refine⟨k,x,h1,h2,?_⟩;rw [←x4,←e];exact ok.lkOf x3
def Ew (n:bn)(i:Nat):List Bytes:=(n.pts.take i).map (·.name)
theorem OV {n:bn} {i:Nat} {p:Pt} (h:n.pts[i]? =some p):Ew n (i+1)=Ew n i++[p.name]:=by rw [Ew,zM,h];simp [Ew]
theorem QS (n:bn):Ew n n.pts.length=n.pts.map (·.name):=by rw [Ew,List.take_length]
theorem QT (n:bn)(i:Nat):(Ew n i).length≤i:=by simp [Ew];omega
def Eu (v:bn)(i:Nat):List (AV×AV):=sM iq (uJ 0 ((bB v).take i))
theorem QI (v:bn):Eu v (bB v).length=sM iq (Iw v):=by rw [Eu,List.take_length];rfl
theorem OM (ok:aV v) {i:Nat} {s:Bytes} (h:(bB v)[i]? =some s):vB (Eu v i) (.str s) (.int .i64 i)=Eu v (i+1):=by
 have hlt:=aK h;have hnot:s∉(bB v).take i:=fun hm=>by
  obtain⟨j,hj⟩:=List.getElem?_of_mem hm;have hj2:=aK hj;rw [List.length_take] at hj2;rw [List.getElem?_take_of_lt (by omega)] at hj;have:=pz ok.nodup hj h;omega
 rw [Eu,Eu,zM,h,show AV.int .i64 (i:Int)=iq i from rfl,wM,JK _ _ _ (by rw [Fu];exact hnot)];rw [Option.toList_some,Fv,List.length_take,Nat.min_eq_left (by omega),Nat.zero_add]
def fJ (v:bn)(ls:List Lk):List (List jE):=(bB v).map fun s=>(ls.filter fun x=>decide (x.src=s)).map (bi v)
theorem JN (v:bn):fJ v []=List.replicate (bB v).length []:=by
 exact List.eq_replicate_iff.2 ⟨by simp [fJ],fun b hb=>by simp [fJ] at hb;exact hb.2⟩
theorem Ht (ok:aV v)(ls:List Lk) {x:Lk} (hx:aF v.pts x.src=true):fJ v (ls++[x])=(fJ v ls).set (aZ v x.src) ((((ls.filter fun y=>decide (y.src=x.src)).map (bi v)))++[bi v x]):=by
 refine List.ext_getElem? fun i=> ?_;rw [List.getElem?_set];by_cases e:aZ v x.src=i
 ·subst e;rw [if_pos rfl,if_pos (by rw [fJ,List.length_map];exact dG hx),fJ,List.getElem?_map,fQ hx];simp
 ·rw [if_neg e,fJ,fJ,List.getElem?_map,List.getElem?_map]
  cases h:(bB v)[i]? with
  | none=>rfl
  | some s=>
   simp only [Option.map_some,List.filter_append,List.map_append];have: ¬x.src=s:=by rintro rfl;exact e (Nl ok h).2
   simp [this]
theorem tH {ls:List Lk} {s:Bytes} {i:Nat} (h:(bB v)[i]? =some s):(fJ v ls)[i]? =some ((ls.filter fun x=>decide (x.src=s)).map (bi v)):=by rw [fJ,List.getElem?_map,h];rfl
def Ai (v:bn)(j:Nat):List (List (List AV)):=(fJ v (v.lks.take j)).map fun r=>r.map bH
def Q6 (v:bn)(j:Nat)(s:Bytes):List (List AV):=(((v.lks.take j).filter fun x=>decide (x.src=s)).map (bi v)).map bH
theorem FK (v:bn):Ai v 0=List.replicate (bB v).length []:=by rw [Ai,List.take_zero,JN,List.map_replicate];rfl
theorem Q8 (v:bn):Ai v v.lks.length=(fJ v v.lks).map fun r=>r.map bH:=by rw [Ai,List.take_length]
theorem Q9 {j:Nat} {s:Bytes} (h:aF v.pts s=true):(Ai v j)[aZ v s]? =some (Q6 v j s):=by rw [Ai,List.getElem?_map,tH (fQ h)];rfl
theorem FJ (ok:aV v) {j:Nat} {x:Lk} (h:v.lks[j]? =some x):Ai v (j+1)=(Ai v j).set (aZ v x.src) (Q6 v j x.src++[bH (bi v x)]):=by
 rw [Ai,zM,h,Option.toList_some,Ht ok _ (ok.ends x (zF h)).1,List.map_set,List.map_append];rfl
theorem Q7 (v:bn)(j:Nat)(s:Bytes):(Q6 v j s).length≤v.lks.length:=by
 rw [Q6,List.length_map,List.length_map];exact Nat.le_trans (List.length_filter_le _ _) (by simp;omega)
def jX (v:bn)(i:Nat):List (List jE):=(u7 v).take i++(fJ v v.lks).drop i
theorem G8 (v:bn):jX v 0=fJ v v.lks:=by simp [jX]
theorem JD (v:bn):jX v (bB v).length=u7 v:=by
 rw [jX,zG (by rw [pO];exact Nat.le_refl _),List.drop_of_length_le (by rw [fJ,List.length_map];exact Nat.le_refl _),List.append_nil]
theorem JE {s:Bytes} {i:Nat} (h:(bB v)[i]? =some s):(jX v i)[i]? =some ((v.lks.filter fun x=>decide (x.src=s)).map (bi v)):=by
 have hl:=(zA.1 h).1;rw [jX,zD (by rw [List.length_take,pO];omega),List.length_take,pO,Nat.min_eq_left (by omega),Nat.sub_self,List.getElem?_drop,Nat.add_zero,tH h]
def Ae (v:bn)(i:Nat):List (List (List AV)):=(jX v i).map fun r=>r.map bH
def Tc (v:bn)(s:Bytes):List jE:=(v.lks.filter fun x=>decide (x.src=s)).map (bi v)
theorem OG (v:bn):Ae v 0=Ai v v.lks.length:=by rw [Ae,G8,Q8]
theorem Qz (v:bn):Ae v (bB v).length=(u7 v).map fun r=>r.map bH:=by rw [Ae,JD]
theorem QA {s:Bytes} {i:Nat} (h:(bB v)[i]? =some s):(Ae v i)[i]? =some ((Tc v s).map bH):=by rw [Ae,List.getElem?_map,JE h];rfl
theorem JF {s:Bytes} {i:Nat} (h:(bB v)[i]? =some s):(jX v i).set i (rowOf v s)=jX v (i+1):=by
 have hl:=(zA.1 h).1;have hr:=tH (ls:=v.lks) h;rw [jX,jX,List.set_append,if_neg (by rw [List.length_take,pO];omega),List.length_take,pO,Nat.min_eq_left (by omega),Nat.sub_self];obtain⟨hrl,hre⟩:=zA.1 hr;rw [List.drop_eq_getElem_cons hrl,List.set_cons_zero,zM,mX h];simp
theorem OE {s:Bytes} {i:Nat} (h:(bB v)[i]? =some s):(Ae v i).set i ((rowOf v s).map bH)=Ae v (i+1):=by
 rw [Ae,Ae,←JF h,List.map_set]
end
end Go.Toll
end
section
namespace Go.Toll
open Go Go.Abs
section
variable {v : bn} {a : Bytes} {sn : List Bool} {Q : List Bytes}
theorem Ni (ok:aV v) {u d:Bytes} (h:d∈dR v u):aF v.pts d=true:=by
 obtain⟨x,hx,_,rfl⟩:=(pu v u d).1 h;exact (ok.ends x hx).2.1
end
end Go.Toll
end
section
namespace Go.Toll
open Go Go.Abs
structure TC where
 time:Int
 pts:Int
 deriving DecidableEq
def D7:TC:=⟨0,-1⟩
def qc (c:TC):List AV:=[.int .i64 c.time,.int .i64 c.pts]
@[simp] theorem XI (c:TC):qc c=[.int .i64 c.time,.int .i64 c.pts]:=rfl
def uM (c d:TC):Bool:=decide (c.time<d.time) || (decide (c.time=d.time) && decide (c.pts<d.pts))
def dP (v:bn)(L:List TC)(s:Bytes):TC:=L.getD (aZ v s) D7
def iY (c:TC)(x:Lk):TC:=⟨c.time+x.min,c.pts+1⟩
def oo (L:List TC):Nat:=L.countP fun c=>decide (0≤c.pts)
def wC (c:TC):Nat:=if c.pts<0 then 137438953472*274877906944+274877906944 else c.time.toNat* 274877906944+c.pts.toNat
def Et (L:List TC):Nat:=(L.map wC).sum
structure jN (v:bn)(b:Bytes)(L:List TC):Prop where
 len:L.length=(bB v).length
 root:dP v L b=⟨0,0⟩
 walk: ∀s,aF v.pts s=true→0≤(dP v L s).pts→ ∃l t,wk v s l=some t∧t.1=(dP v L s).time∧(l.length:Int)=(dP v L s).pts∧dN s l=b
 bnd: ∀s,aF v.pts s=true→0≤(dP v L s).pts→(dP v L s).time≤2147483648*(oo L:Int)
def NZ (v:bn)(L:List TC)(x:Lk):Prop:=(dP v L x.dst).pts<0∨(0≤(dP v L x.src).pts∧uM (iY (dP v L x.dst) x) (dP v L x.src)=false)
section
variable {v : bn} {b : Bytes} {L : List TC}
theorem uB {s:Bytes} (hl:L.length=(bB v).length)(hs:aF v.pts s=true):L[aZ v s]? =some (dP v L s):=by
 have h:aZ v s<L.length:=by rw [hl];exact dG hs
 rw [dP,List.getD_eq_getElem?_getD,zB h];rfl
theorem uC (ok:aV v) {s t:Bytes} (hl:L.length=(bB v).length)(hs:aF v.pts s=true)(ht:aF v.pts t=true)(c:TC):dP v (L.set (aZ v s) c) t=if t=s then c else dP v L t:=by
 rw [dP,dP,List.getD_eq_getElem?_getD,List.getD_eq_getElem?_getD];by_cases e:t=s
 ·subst e;rw [zI (by rw [hl];exact dG ht),if_pos rfl];rfl
 ·rw [zJ (fun h=>e (gT ok hs ht h).symm),if_neg e]
theorem Bp {c d:TC}: ∀ {L:List TC} {i:Nat},L[i]? =some d→0≤c.pts→oo (L.set i c)=oo L+if d.pts<0 then 1 else 0
 | [],i,h,_=>by simp at h
 | e::L,0,h,hc=>by
  simp at h;subst h
  simp only [oo,List.set_cons_zero,List.countP_cons];by_cases h:e.pts<0
  ·have: ¬0≤e.pts:=by omega
   simp [hc,h,this]
  ·have:0≤e.pts:=by omega
   simp [hc,h,this]
 | e::L,i+1,h,hc=>by
  have:=Bp (L:=L) (i:=i) (d:=d) (c:=c) (by simpa using h) hc;simp only [oo,List.set_cons_succ,List.countP_cons] at this ⊢;omega
theorem FO (L:List TC):oo L≤L.length:=List.countP_le_length
theorem Nh {c d:TC}: ∀ {L:List TC} {i:Nat},L[i]? =some d→wC c<wC d→Et (L.set i c)<Et L
 | [],i,h,_=>by simp at h
 | e::L,0,h,hc=>by
  simp at h;subst h
  simp only [Et,List.set_cons_zero,List.map_cons,List.sum_cons];omega
 | e::L,i+1,h,hc=>by
  have:=Nh (L:=L) (i:=i) (by simpa using h) hc;simp only [Et,List.set_cons_succ,List.map_cons,List.sum_cons] at this ⊢;omega
theorem jN.rng (ok:aV v)(c:jN v b L) {s:Bytes} (hs:aF v.pts s=true)(h:0≤(dP v L s).pts):(dP v L s).pts≤(dP v L s).time∧(dP v L s).time≤137438953472:=by
 obtain⟨l,t,h1,h2,h3,_⟩:=c.walk s hs h;have h4:=tV ok h1;have h5:=c.bnd s hs h;have h6:=FO L;have h7:=c.len;have h8:=lI v;have h9:=ok.plen;omega
theorem jN.start (ok:aV v)(hb:aF v.pts b=true):jN v b ((List.replicate (bB v).length D7).set (aZ v b) ⟨0,0⟩):=by
 have hl:(List.replicate (bB v).length D7).length=(bB v).length:=by simp
 have h0: ∀t,dP v (List.replicate (bB v).length D7) t=D7:=fun t=>by
  rw [dP,List.getD_eq_getElem?_getD,List.getElem?_replicate];split <;> rfl
 have hr:dP v ((List.replicate (bB v).length D7).set (aZ v b) ⟨0,0⟩) b=⟨0,0⟩:=by rw [uC ok hl hb hb,if_pos rfl]
 refine⟨by simp,hr,fun s hs h=> ?_,fun s hs h=> ?_⟩
 ·rw [uC ok hl hb hs,h0] at h ⊢;split at h
  ·rename_i e;rw [if_pos e];exact⟨[],(0,0),rfl,rfl,rfl,e⟩
  ·simp [D7] at h
 ·rw [uC ok hl hb hs,h0] at h ⊢;split at h
  ·rename_i e;rw [if_pos e];show (0:Int)≤_;omega
  ·simp [D7] at h
theorem vD {c d:TC} (h:uM c d=true):c.time<d.time∨(c.time=d.time∧c.pts<d.pts):=by simpa [uM] using h
theorem IU {c d:TC} (h:uM c d=false):d.time<c.time∨(c.time=d.time∧d.pts≤c.pts):=by
 simp [uM] at h;obtain⟨h1,h2⟩:=h;by_cases e:c.time=d.time
 ·exact .inr ⟨e,h2 e⟩
 ·exact .inl (by omega)
theorem jN.step (ok:aV v)(c:jN v b L) {x:Lk} (hx:x∈v.lks)(hd:0≤(dP v L x.dst).pts)(hb:aF v.pts b=true)(hi:(dP v L x.src).pts<0∨uM (iY (dP v L x.dst) x) (dP v L x.src)=true):
  jN v b (L.set (aZ v x.src) (iY (dP v L x.dst) x))∧Et (L.set (aZ v x.src) (iY (dP v L x.dst) x))<Et L:=by
 obtain⟨p1,p2,p3⟩:=ok.ends x hx;obtain⟨r1,r2,r3⟩:=ok.rng x hx;obtain⟨q1,q2⟩:=c.rng ok p2 hd;have hbd:=c.bnd x.dst p2 hd;have hg:=uB c.len p1;have hc:=Bp (c:=iY (dP v L x.dst) x) hg (by simp only [iY];omega);have hmono:oo L≤oo (L.set (aZ v x.src) (iY (dP v L x.dst) x)):=by rw [hc];omega
 have hcl:oo (L.set (aZ v x.src) (iY (dP v L x.dst) x))≤64:=by
  have:=FO (L.set (aZ v x.src) (iY (dP v L x.dst) x));rw [List.length_set,c.len,lI] at this;have:=ok.plen;omega
 have hnew:(dP v L x.dst).time+x.min≤2147483648*(oo (L.set (aZ v x.src) (iY (dP v L x.dst) x)):Int):=by
  rcases hi with hi | hi
  ·rw [hc,if_pos hi];push_cast;omega
  ·by_cases hu:(dP v L x.src).pts<0
   ·rw [hc,if_pos hu];push_cast;omega
   ·have h1:=vD hi;have h2:=c.bnd x.src p1 (by omega);simp only [iY] at h1;omega
 refine⟨⟨by rw [List.length_set];exact c.len,?_,fun s hs h=> ?_,fun s hs h=> ?_⟩,Nh hg ?_⟩
 ·rw [uC ok c.len p1 hb];split
  ·rename_i e
   exfalso
   rw [←e,c.root] at hi;rcases hi with hi | hi
   ·simp at hi
   ·have:=vD hi;simp only [iY] at this;omega
  ·exact c.root
 ·rw [uC ok c.len p1 hs] at h ⊢;split at h
  ·rename_i e;subst e;rw [if_pos rfl];obtain⟨l,t,w1,w2,w3,w4⟩:=c.walk x.dst p2 hd;exact⟨x.dst::l,_,dS.2 ⟨x,t,ok.lkOf hx,w1,rfl⟩,by simp only [iY];omega,by simp only [iY,List.length_cons];push_cast;omega,w4⟩
  ·rename_i e;rw [if_neg e];exact c.walk s hs h
 ·rw [uC ok c.len p1 hs] at h ⊢;split at h
  ·rename_i e;rw [if_pos e];exact hnew
  ·rename_i e;rw [if_neg e];have:=c.bnd s hs h;omega
 ·have hw:wC (iY (dP v L x.dst) x)=((dP v L x.dst).time+x.min).toNat* 274877906944+((dP v L x.dst).pts+1).toNat:=by
   rw [wC,if_neg (by simp only [iY];omega)];rfl
  by_cases hu:(dP v L x.src).pts<0
  ·rw [hw,wC,if_pos hu];omega
  ·have hi:uM (iY (dP v L x.dst) x) (dP v L x.src)=true:=by
    rcases hi with hi | hi
    ·exact absurd hi hu
    ·exact hi
   obtain⟨s1,s2⟩:=c.rng ok p1 (by omega);rw [hw,wC,if_neg hu];have h1:=vD hi;simp only [iY] at h1;rcases h1 with h1 | ⟨h1,h2⟩
   ·have:((dP v L x.dst).time+x.min).toNat+1≤(dP v L x.src).time.toNat:=by omega
    omega
   ·rw [h1];omega
structure R8 (v:bn)(b:Bytes)(L:List TC):Prop where
 ok:jN v b L
 opt: ∀l s t,aF v.pts s=true→wk v s l=some t→dN s l=b→0≤(dP v L s).pts∧((dP v L s).time<t.1∨((dP v L s).time=t.1∧(dP v L s).pts≤l.length))
theorem jN.opt (ok:aV v)(c:jN v b L)(hf: ∀x∈v.lks,NZ v L x):R8 v b L:=by
 refine⟨c,fun l=> ?_⟩
 induction l with
 | nil=>
  intro s t hs h he;obtain rfl:=Option.some.inj h;have:s=b:=he;subst this;rw [c.root];simp
 | cons d l ih=>
  intro s t hs h he;obtain⟨x,u,h1,h2,rfl⟩:=dS.1 h;obtain⟨m,rfl,rfl⟩:=fO h1;obtain⟨i1,i2⟩:=ih x.dst u (ok.ends x m).2.1 h2 he;rcases hf x m with hc | ⟨hc1,hc2⟩
  ·omega
  ·refine⟨hc1,?_⟩;have:=IU hc2;simp only [iY] at this;simp only [List.length_cons]
   push_cast
   omega
structure D9 (v:bn)(L0:List TC)(ch:Bool)(L:List TC)(i:Nat):Prop where
 still:ch=false→Et L=Et L0∧ ∀x∈v.lks,aZ v x.src<i→NZ v L x
 less:ch=true→Et L<Et L0
structure Ea (v:bn)(L0:List TC)(ch:Bool)(L:List TC)(s:Bytes)(k:Nat):Prop where
 still:ch=false→Et L=Et L0∧(∀x∈v.lks,aZ v x.src<aZ v s→NZ v L x)∧ ∀j y,j<k→(kF v s)[j]? =some y→NZ v L y
 less:ch=true→Et L<Et L0
theorem D9.start (v:bn)(L:List TC):D9 v L false L 0:=⟨fun _=>⟨rfl,fun x _ h=>by omega⟩,by simp⟩
theorem D9.open {v:bn} {L0 L:List TC} {ch:Bool} {s:Bytes} (w:D9 v L0 ch L (aZ v s)):Ea v L0 ch L s 0:=⟨fun c=>⟨(w.still c).1,(w.still c).2,fun j y hj=>by omega⟩,w.less⟩
theorem Ea.close {v:bn} (ok:aV v) {L0 L:List TC} {ch:Bool} {s:Bytes} {k:Nat} (hs:aF v.pts s=true)(w:Ea v L0 ch L s k)(hk:(kF v s).length≤k):D9 v L0 ch L (aZ v s+1):=by
 refine⟨fun c=>⟨(w.still c).1,fun x hx hxi=> ?_⟩,w.less⟩;rcases zN (aZ v x.src) (aZ v s) with h1 | h1
 ·exact (w.still c).2.1 x hx h1
 ·have:x.src=s:=gT ok (ok.ends x hx).1 hs (by omega);obtain⟨j,hj⟩:=List.getElem?_of_mem ((iI v s x).2 ⟨hx,this⟩);exact (w.still c).2.2 j x (by have:=aK hj;omega) hj
theorem Ea.keep {v:bn} {L0 L:List TC} {ch:Bool} {s:Bytes} {k:Nat} {x:Lk} (w:Ea v L0 ch L s k)(hx:(kF v s)[k]? =some x)(hf:NZ v L x):Ea v L0 ch L s (k+1):=by
 refine⟨fun c=>⟨(w.still c).1,(w.still c).2.1,fun j y hj hy=> ?_⟩,w.less⟩;rcases zN j k with h1 | h1
 ·exact (w.still c).2.2 j y h1 hy
 ·obtain rfl:j=k:=by omega
  rw [hx] at hy;obtain rfl:=Option.some.inj hy;exact hf
theorem Ea.turn {v:bn} {L0 L L':List TC} {ch:Bool} {s:Bytes} {k k':Nat} (w:Ea v L0 ch L s k)(h:Et L'<Et L):Ea v L0 true L' s k':=by
 refine⟨by simp,fun _=> ?_⟩
 cases ch with
 | false=>rw [←(w.still rfl).1];exact h
 | true=>exact Nat.lt_trans h (w.less rfl)
theorem D9.down {v:bn} {L0 L:List TC} {ch:Bool} {i:Nat} (w:D9 v L0 ch L i):2*Et L+ch.toNat<2*Et L0+1:=by
 cases ch with
 | false=>have:=(w.still rfl).1;simp;omega
 | true=>have:=w.less rfl;simp;omega
structure XP (v:bn)(ch:Bool)(L:List TC)(M:Nat):Prop where
 fix:ch=false→ ∀x∈v.lks,NZ v L x
 mu:M=2*Et L+ch.toNat
def nz (n i:Nat):List TC:=List.replicate i D7++List.replicate (n - i) ⟨0,0⟩
theorem Lg (n:Nat):nz n 0=List.replicate n ⟨0,0⟩:=by simp [nz]
theorem Og (n:Nat):nz n n=List.replicate n D7:=by simp [nz]
theorem Oi {n i:Nat} (h:i≤n):(nz n i).length=n:=by simp [nz];omega
theorem Oh {n i:Nat} (h:i<n):(nz n i)[i]? =some ⟨0,0⟩:=by
 rw [nz,zD (by simp),List.length_replicate,Nat.sub_self,show n - i=(n - (i+1))+1 by omega,List.replicate_succ];rfl
theorem Oj {n i:Nat} (h:i<n):(nz n i).set i D7=nz n (i+1):=by
 rw [nz,nz,List.set_append_right _ _ (by simp),List.length_replicate,Nat.sub_self,show n - i=(n - (i+1))+1 by omega,List.replicate_succ,List.set_cons_zero,show List.replicate (i+1) D7=List.replicate i D7++[D7] from List.replicate_succ',zK];rfl
def sW (v:bn)(L:List TC)(x:Lk):Prop:=0≤(dP v L x.dst).pts∧iY (dP v L x.dst) x=dP v L x.src
theorem R8.tight (ok:aV v)(c:R8 v b L) {x:Lk} (hx:x∈v.lks) {l:List Bytes} {t:Int×Int} (h:wk v x.dst l=some t)(he:dN x.dst l=b)(h1:x.min+t.1=(dP v L x.src).time)(h2:(l.length:Int)+1=(dP v L x.src).pts):sW v L x:=by
 obtain⟨p1,p2,p3⟩:=ok.ends x hx;obtain⟨o1,o2⟩:=c.opt l x.dst t p2 h he;obtain⟨l',t',w1,w2,w3,w4⟩:=c.ok.walk x.dst p2 o1;obtain⟨o3,o4⟩:=c.opt (x.dst::l') x.src _ p1 (dS.2 ⟨x,t',ok.lkOf hx,w1,rfl⟩) w4;simp only [List.length_cons] at o4
 push_cast at o4
 refine⟨o1,?_⟩;have e1:(iY (dP v L x.dst) x).time=(dP v L x.src).time:=by simp only [iY];omega
 have e2:(iY (dP v L x.dst) x).pts=(dP v L x.src).pts:=by simp only [iY];omega
 cases h5:iY (dP v L x.dst) x with
 | mk p q=>cases h6:dP v L x.src with
  | mk p' q'=>rw [h5,h6] at e1 e2;simp only at e1 e2;rw [e1,e2]
structure AZ (v:bn)(a b:Bytes)(L:List TC)(x:List Bytes)(u:Bytes):Prop where
 ends:dN a x=u
 pt:aF v.pts u=true
 set:0≤(dP v L u).pts
 walk: ∃t,wk v a x=some t∧t.1+(dP v L u).time=(dP v L a).time
 len:(x.length:Int)+(dP v L u).pts=(dP v L a).pts
 first: ∀l s,wk v a l=some s→dN a l=b→s.1=(dP v L a).time→(l.length:Int)=(dP v L a).pts→dQ x (l.take x.length)≤0
theorem AZ.start {a:Bytes} (ha:aF v.pts a=true)(h:0≤(dP v L a).pts):AZ v a b L [] a:=
 ⟨rfl,ha,h,⟨(0,0),rfl,by simp⟩,by simp,fun l s _ _ _ _=>by simp [dQ]⟩
theorem AZ.exists (ok:aV v)(c:R8 v b L) {a u:Bytes} {x:List Bytes} (w:AZ v a b L x u)(hne:u≠b): ∃y∈v.lks,y.src=u∧sW v L y:=by
 obtain⟨l,t,w1,w2,w3,w4⟩:=c.ok.walk u w.pt w.set
 cases l with
 | nil=>exact absurd w4 hne
 | cons d l=>
  obtain⟨y,t',h1,h2,rfl⟩:=dS.1 w1;obtain⟨m,rfl,rfl⟩:=fO h1;exact⟨y,m,rfl,c.tight ok m h2 w4 w2 (by simp only [List.length_cons] at w3;push_cast at w3;exact w3)⟩
theorem AZ.step (ok:aV v)(c:R8 v b L) {a u:Bytes} {x:List Bytes} (w:AZ v a b L x u) {k:Nat} {y:Lk} (hk:(kF v u)[k]? =some y)(hy:sW v L y)(hfirst: ∀j z,j<k→(kF v u)[j]? =some z→ ¬sW v L z):
  AZ v a b L (x++[y.dst]) y.dst∧(dP v L y.dst).pts+1=(dP v L u).pts:=by
 obtain⟨hym,hys⟩:=(iI v u y).1 (zF hk);obtain⟨p1,p2,p3⟩:=ok.ends y hym;obtain⟨o1,o2⟩:=hy;rw [hys] at o2;have e1:(dP v L y.dst).time+y.min=(dP v L u).time:=congrArg TC.time o2;have e2:(dP v L y.dst).pts+1=(dP v L u).pts:=congrArg TC.pts o2;obtain⟨t,t1,t2⟩:=w.walk;have hlen:=w.len;refine⟨⟨fC _ _ _,p2,o1,⟨_,lZ.2 ⟨t,(y.min+0,y.max+0),t1,?_,rfl⟩,?_⟩,?_,?_⟩,e2⟩
 ·rw [w.ends,←hys];exact dS.2 ⟨y,(0,0),ok.lkOf hym,rfl,rfl⟩
 ·show t.1+(y.min+0)+_=_;omega
 ·simp;omega
 ·intro l s h he hs hl;have hf:=w.first l s h he hs hl;have hll:x.length<l.length:=by
   have:=c.ok.rng ok p2 o1;omega
  obtain⟨e,hle,_⟩: ∃e,l[x.length]? =some e∧True:=⟨_,zB hll,trivial⟩;rw [List.length_append,List.length_singleton,zM,hle,Option.toList_some,CP _ _ (by simp;omega)];split
  ·rename_i hz;have hxe:x=l.take x.length:=ut.1 hz;rw [QQ,MP];have hsplit:l=x++e::l.drop (x.length+1):=by
    conv=>lhs;rw [←List.take_append_drop x.length l,←hxe]
    rw [List.drop_eq_getElem_cons hll,(zA.1 hle).2]
   rw [hsplit] at h he;obtain⟨t',w1,h1,h2,rfl⟩:=lZ.1 h;rw [t1] at h1;obtain rfl:=Option.some.inj h1;rw [w.ends] at h2;rw [ug,w.ends] at he;obtain⟨z,w2,z1,z2,rfl⟩:=dS.1 h2;obtain⟨zm,zs,zd⟩:=fO z1;subst zd;have hon:sW v L z:=by
    refine c.tight ok zm z2 he ?_ ?_
    ·rw [zs];simp only at hs;omega
    ·rw [zs];simp;omega
   have hzm:z∈kF v u:=(iI v u z).2 ⟨zm,zs⟩;obtain⟨j,hj⟩:=List.getElem?_of_mem hzm;rcases Nat.lt_trichotomy j k with hjk | hjk | hjk
   ·exact absurd hon (hfirst j z hjk hj)
   ·subst hjk;rw [hk] at hj;rw [Option.some.inj hj];exact List.le_refl _
   ·obtain⟨b1,c1⟩:=zA.1 hk;obtain⟨b2,c2⟩:=zA.1 hj;have:=List.pairwise_iff_getElem.1 (Fq v u) k j b1 b2 hjk;rw [c1,c2] at this;exact of_decide_eq_true this
  ·exact hf
theorem AZ.best (ok:aV v)(c:R8 v b L) {a:Bytes} {x:List Bytes} (ha:aF v.pts a=true)(w:AZ v a b L x b):rD v a b x (dP v L a).time:=by
 obtain⟨t,t1,t2⟩:=w.walk;have hl:=w.len;rw [c.ok.root] at t2 hl;refine⟨⟨t,t1,by simpa using t2⟩,w.ends,fun l s h he=> ?_⟩;obtain⟨o1,o2⟩:=c.opt l a s ha h he;rcases o2 with o2 | ⟨o2,o3⟩
 ·exact .inl o2
 ·refine .inr ⟨o2,?_⟩;simp only [List.length_cons];by_cases e:(l.length:Int)=(dP v L a).pts
  ·right
   have hxl:x.length=l.length:=by simp at hl;omega
   have:=w.first l s h he o2.symm e;rw [hxl,List.take_length] at this;exact⟨by omega,by rw [FE];exact this⟩
  ·left
   simp at hl;omega
theorem R8.short (ok:aV v)(c:R8 v b L) {a:Bytes} (ha:aF v.pts a=true)(h:0≤(dP v L a).pts):(dP v L a).pts≤63:=by
 obtain⟨l,t,w1,w2,w3,w4⟩:=c.ok.walk a ha h;obtain⟨l',t',q1,q2,q3,_,q5⟩:=mY ok _ a l t (Nat.le_refl _) w1;have hl:=qK ok q1 ha q3;have hp:=ok.plen;rcases q5 with rfl | ⟨q5,_⟩
 ·omega
 ·obtain⟨_,o2⟩:=c.opt l' a t' ha q1 (q2.trans w4);omega
theorem OO (x:Lk):sW v L x↔0≤(dP v L x.dst).pts∧(dP v L x.dst).time+x.min=(dP v L x.src).time∧(dP v L x.dst).pts+1=(dP v L x.src).pts:=by
 unfold sW iY
 cases dP v L x.src with
 | mk p q=>simp
end
end Go.Toll
end
section
namespace Go.Toll
open Go Go.Abs
def dw (v:bn)(far:List Int)(s:Bytes):Int:=far.getD (aZ v s) 0
def dM (v:bn)(far:List Int)(y s:Bytes):Prop:=s=y∨dw v far s≠0
structure Hop (v:bn)(p:List Bytes)(y t:Bytes)(far:List Int)(Q:List Bytes):Prop where
 len:far.length=(bB v).length
 start:dw v far y=0
 qs: ∀s∈Q,aF v.pts s=true∧dM v far y s
 walk: ∀s,aF v.pts s=true→dM v far y s→0≤dw v far s∧Rk v (p++[y]) y (dw v far s).toNat s
 sorted:Q.Pairwise fun a b=>dw v far a≤dw v far b
 near: ∀u,Q.head? =some u→ ∀s,aF v.pts s=true→dM v far y s→dw v far s≤dw v far u+1
 closed: ∀s,aF v.pts s=true→dM v far y s→s∈Q∨(s≠t∧ ∀x∈v.lks,x.src=s→x.dst∈p++[y]∨(dM v far y x.dst∧dw v far x.dst≤dw v far s+1))
structure D8 (v:bn)(p:List Bytes)(y t:Bytes)(far:List Int)(Q:List Bytes)(u:Bytes)(k:Nat):Prop where
 len:far.length=(bB v).length
 start:dw v far y=0
 qs: ∀s∈Q,aF v.pts s=true∧dM v far y s
 walk: ∀s,aF v.pts s=true→dM v far y s→0≤dw v far s∧Rk v (p++[y]) y (dw v far s).toNat s
 at':aF v.pts u=true∧dM v far y u∧u≠t
 sorted:Q.Pairwise fun a b=>dw v far a≤dw v far b
 low: ∀s∈Q,dw v far u≤dw v far s
 near: ∀s,aF v.pts s=true→dM v far y s→dw v far s≤dw v far u+1
 done: ∀j s,j<k→(dR v u)[j]? =some s→s∈p++[y]∨dM v far y s
 closed: ∀s,aF v.pts s=true→dM v far y s→s=u∨s∈Q∨(s≠t∧ ∀x∈v.lks,x.src=s→x.dst∈p++[y]∨(dM v far y x.dst∧dw v far x.dst≤dw v far s+1))
section
variable {v : bn} {p : List Bytes} {y t : Bytes} {far : List Int} {Q : List Bytes}
theorem I4 (ok:aV v) {s d:Bytes} (hl:far.length=(bB v).length)(hd:aF v.pts d=true)(hs:aF v.pts s=true)(n:Int):dw v (far.set (aZ v d) n) s=if s=d then n else dw v far s:=by
 rw [dw,dw,List.getD_eq_getElem?_getD,List.getD_eq_getElem?_getD];by_cases e:s=d
 ·subst e;rw [zI (by rw [hl];exact dG hs),if_pos rfl];rfl
 ·rw [zJ (fun h=>e (gT ok hd hs h).symm),if_neg e]
theorem BF {s:Bytes} (hl:far.length=(bB v).length)(hs:aF v.pts s=true):far[aZ v s]? =some (dw v far s):=by
 have h:aZ v s<far.length:=by rw [hl];exact dG hs
 rw [dw,List.getD_eq_getElem?_getD,zB h];rfl
theorem Hop.first (ok:aV v)(hy:aF v.pts y=true):Hop v p y t (List.replicate (bB v).length 0) [y]:=by
 have h0: ∀s,dw v (List.replicate (bB v).length 0) s=0:=fun s=>by
  rw [dw,List.getD_eq_getElem?_getD,List.getElem?_replicate];split <;> rfl
 have hs: ∀s,dM v (List.replicate (bB v).length 0) y s↔s=y:=fun s=>by
  unfold dM;rw [h0];simp
 refine⟨by simp,h0 y,fun s hm=> ?_,fun s hp h=> ?_,by simp,fun u hu s hp h=> ?_,fun s hp h=> ?_⟩
 ·rw [List.mem_singleton.1 hm];exact⟨hy,.inl rfl⟩
 ·rw [(hs s).1 h,h0];exact⟨by omega,[],(0,0),rfl,rfl,by simp,rfl⟩
 ·rw [h0,h0];omega
 ·rw [(hs s).1 h];exact .inl (by simp)
theorem Hop.claim (ok:aV v)(hp:Hop v p y t far Q)(hy:aF v.pts y=true): ∀k s,Rk v (p++[y]) y k s→aF v.pts s=true→(dM v far y s∧dw v far s≤k)∨ ∃u,Q.head? =some u∧dw v far u≤k
 | 0,s,h,_=>by
  rw [h.zero];exact .inl ⟨.inl rfl,by rw [hp.start];simp⟩
 | k+1,s,h,hs=>by
  obtain⟨s',h1,h2,h3,h4⟩:=h.back ok;have hs':aF v.pts s'=true:=by
   obtain⟨x,hx,e,_⟩:=(pu v s' s).1 h2;rw [←e];exact (ok.ends x hx).1
  rcases hp.claim ok hy k s' h1 hs' with⟨c1,c2⟩ | ⟨u,c1,c2⟩
  ·rcases hp.closed s' hs' c1 with hq | ⟨_,hc⟩
   ·right
    cases Q with
    | nil=>cases hq
    | cons u Q=>
     refine⟨u,rfl,?_⟩;have hsu:dw v far u≤dw v far s':=by
      rcases List.mem_cons.1 hq with rfl | hq
      ·exact Int.le_refl _
      ·exact (List.pairwise_cons.1 hp.sorted).1 s' hq
     omega
   ·obtain⟨x,hx,e1,e2⟩:=(pu v s' s).1 h2;rcases hc x hx e1 with h5 | ⟨h5,h6⟩
    ·rw [e2] at h5;exact absurd h5 h3
    ·rw [e2] at h5 h6;left
     exact⟨h5,by omega⟩
  ·exact .inr ⟨u,c1,by omega⟩
theorem Rk.short (ok:aV v) {q:List Bytes} (hy:aF v.pts y=true) {k:Nat} {s:Bytes} (h:Rk v q y k s): ∃k',k'≤k∧k'≤63∧Rk v q y k' s:=by
 obtain⟨w,c,h1,h2,h3,h4⟩:=h;obtain⟨w',c',q1,q2,q3,q4,q5⟩:=mY ok _ y w c (Nat.le_refl _) h1;have hl:=qK ok q1 hy q3;have hp:=ok.plen;refine⟨w'.length,by rcases q5 with rfl | ⟨_,q5⟩ <;> omega,by omega,w',c',q1,by rw [q2,h2],fun z hz=>h3 z (q4 z hz),rfl⟩
theorem Hop.head_short (ok:aV v) {u:Bytes} (hp:Hop v p y t far (u::Q))(hy:aF v.pts y=true):0≤dw v far u∧dw v far u≤63:=by
 obtain⟨h1,h2⟩:=hp.qs u List.mem_cons_self;obtain⟨w1,w2⟩:=hp.walk u h1 h2;obtain⟨k',k1,k2,k3⟩:=w2.short ok hy;rcases hp.claim ok hy k' u k3 h1 with⟨_,c⟩ | ⟨u',c1,c2⟩
 ·omega
 ·obtain rfl:u=u':=Option.some.inj c1;omega
theorem Hop.found (ok:aV v)(hp:Hop v p y t far (t::Q))(hy:aF v.pts y=true):Rk v (p++[y]) y (dw v far t).toNat t∧ ∀k,Rk v (p++[y]) y k t→(dw v far t).toNat≤k:=by
 obtain⟨h1,h2⟩:=hp.qs t List.mem_cons_self;refine⟨(hp.walk t h1 h2).2,fun k h=> ?_⟩;rcases hp.claim ok hy k t h h1 with⟨_,c⟩ | ⟨u',c1,c2⟩
 ·omega
 ·obtain rfl:t=u':=Option.some.inj c1;omega
theorem Hop.none (ok:aV v)(hp:Hop v p y t far [])(hy:aF v.pts y=true)(ht:aF v.pts t=true)(k:Nat): ¬Rk v (p++[y]) y k t:=fun h=>by
 rcases hp.claim ok hy k t h ht with⟨c,_⟩ | ⟨u',c1,_⟩
 ·rcases hp.closed t ht c with h1 | ⟨h1,_⟩
  ·cases h1
  ·exact h1 rfl
 ·cases c1
theorem Hop.pop {u:Bytes} (hp:Hop v p y t far (u::Q))(hu:u≠t):D8 v p y t far Q u 0:=by
 obtain⟨s1,s2⟩:=List.pairwise_cons.1 hp.sorted;obtain⟨h1,h2⟩:=hp.qs u List.mem_cons_self;refine⟨hp.len,hp.start,fun s hs=>hp.qs s (List.mem_cons_of_mem _ hs),hp.walk,⟨h1,h2,hu⟩,s2,s1,hp.near u rfl,fun j s hj=>by omega,fun s hs hh=> ?_⟩;rcases hp.closed s hs hh with h | h
 ·rcases List.mem_cons.1 h with rfl | h
  ·exact .inl rfl
  ·exact .inr (.inl h)
 ·exact .inr (.inr h)
theorem D8.old {u d:Bytes} {k:Nat} (m:D8 v p y t far Q u k)(hd:(dR v u)[k]? =some d)(h:d∈p++[y]∨dM v far y d):D8 v p y t far Q u (k+1):=by
 refine⟨m.len,m.start,m.qs,m.walk,m.at',m.sorted,m.low,m.near,fun j s hj hs=> ?_,m.closed⟩;rcases zN j k with h1 | h1
 ·exact m.done j s h1 hs
 ·obtain rfl:j=k:=by omega
  rw [hd] at hs;obtain rfl:=Option.some.inj hs;exact h
theorem D8.new (ok:aV v) {u d:Bytes} {k:Nat} (m:D8 v p y t far Q u k)(hd:(dR v u)[k]? =some d)(hz:dw v far d=0)(hdy:d≠y)(hdp:d∉p)(hy:aF v.pts y=true):
  D8 v p y t (far.set (aZ v d) (dw v far u+1)) (Q++[d]) u (k+1):=by
 have hdm:=zF hd;have hdpt:=Ni ok hdm;obtain⟨u1,u2,u3⟩:=m.at';obtain⟨w1,w2⟩:=m.walk u u1 u2;have hnd: ¬dM v far y d:=by
  rintro (e | e)
  ·exact hdy e
  ·exact e hz
 have hne: ∀s,dM v far y s→s≠d:=fun s h e=>hnd (e▸h);have key: ∀s,aF v.pts s=true→dw v (far.set (aZ v d) (dw v far u+1)) s=if s=d then dw v far u+1 else dw v far s:=fun s hs=>I4 ok m.len hdpt hs _
 have old: ∀s,aF v.pts s=true→dM v far y s→dw v (far.set (aZ v d) (dw v far u+1)) s=dw v far s:=fun s hs h=>by rw [key s hs,if_neg (hne s h)]
 have seen: ∀s,aF v.pts s=true→(dM v (far.set (aZ v d) (dw v far u+1)) y s↔s=d∨dM v far y s):=fun s hs=>by
  unfold dM;rw [key s hs];by_cases e:s=d
  ·rw [if_pos e];exact⟨fun _=> .inl e,fun _=> .inr (by omega)⟩
  ·rw [if_neg e];constructor
   ·exact fun h=> .inr h
   ·rintro (h | h)
    ·exact absurd h e
    ·exact h
 have hfd:dw v (far.set (aZ v d) (dw v far u+1)) d=dw v far u+1:=by rw [key d hdpt,if_pos rfl]
 have hfu:=old u u1 u2;refine⟨by rw [List.length_set];exact m.len,by rw [old y hy (.inl rfl)];exact m.start,fun s hs=> ?_,fun s hs h=> ?_,⟨u1,(seen u u1).2 (.inr u2),u3⟩,?_,fun s hs=> ?_,fun s hs h=> ?_,fun j s hj hs=> ?_,fun s hs h=> ?_⟩
 ·rcases List.mem_append.1 hs with hs | hs
  ·exact⟨(m.qs s hs).1,(seen s (m.qs s hs).1).2 (.inr (m.qs s hs).2)⟩
  ·rw [List.mem_singleton.1 hs];exact⟨hdpt,(seen d hdpt).2 (.inl rfl)⟩
 ·rcases (seen s hs).1 h with rfl | h
  ·rw [hfd];refine⟨by omega,?_⟩;have:(dw v far u+1).toNat=(dw v far u).toNat+1:=by omega
   rw [this];exact w2.step ok hdm (by simp [hdp,hdy])
  ·rw [old s hs h];exact m.walk s hs h
 ·refine List.pairwise_append.2 ⟨List.Pairwise.imp_of_mem (fun ha hb h=> ?_) m.sorted,List.pairwise_singleton _ _,fun a ha b hb=> ?_⟩
  ·rw [old _ (m.qs _ ha).1 (m.qs _ ha).2,old _ (m.qs _ hb).1 (m.qs _ hb).2];exact h
  ·rw [List.mem_singleton.1 hb,hfd,old a (m.qs a ha).1 (m.qs a ha).2];exact m.near a (m.qs a ha).1 (m.qs a ha).2
 ·rw [hfu];rcases List.mem_append.1 hs with hs | hs
  ·rw [old s (m.qs s hs).1 (m.qs s hs).2];exact m.low s hs
  ·rw [List.mem_singleton.1 hs,hfd];omega
 ·rw [hfu];rcases (seen s hs).1 h with rfl | h
  ·rw [hfd];omega
  ·rw [old s hs h];exact m.near s hs h
 ·have hsp:=Ni ok (zF hs);rcases zN j k with h1 | h1
  ·rcases m.done j s h1 hs with h2 | h2
   ·exact .inl h2
   ·exact .inr ((seen s hsp).2 (.inr h2))
  ·obtain rfl:j=k:=by omega
   rw [hd] at hs;obtain rfl:=Option.some.inj hs;exact .inr ((seen d hsp).2 (.inl rfl))
 ·rcases (seen s hs).1 h with rfl | h
  ·exact .inr (.inl (by simp))
  ·rcases m.closed s hs h with h1 | h1 | ⟨h1,h2⟩
   ·exact .inl h1
   ·exact .inr (.inl (by simp [h1]))
   ·refine .inr (.inr ⟨h1,fun x hx e=> ?_⟩);rcases h2 x hx e with h3 | ⟨h3,h4⟩
    ·exact .inl h3
    ·have:=(ok.ends x hx).2.1;rw [old x.dst this h3,old s hs h];exact .inr ⟨(seen x.dst this).2 (.inr h3),h4⟩
theorem D8.finish (ok:aV v) {u:Bytes} (m:D8 v p y t far Q u (dR v u).length):Hop v p y t far Q:=by
 obtain⟨u1,u2,u3⟩:=m.at';refine⟨m.len,m.start,m.qs,m.walk,m.sorted,fun w hw s hs h=> ?_,fun s hs h=> ?_⟩
 ·have h1:=m.near s hs h;have h2:dw v far u≤dw v far w:=by
   cases Q with
   | nil=>cases hw
   | cons w' Q=>
    obtain rfl:w'=w:=Option.some.inj hw;exact m.low _ List.mem_cons_self
  omega
 ·rcases m.closed s hs h with rfl | h1 | h1
  ·right
   refine⟨u3,fun x hx e=> ?_⟩;have hm:x.dst∈dR v s:=(pu v s x.dst).2 ⟨x,hx,e,rfl⟩;obtain⟨j,hj⟩:=List.getElem?_of_mem hm;rcases m.done j _ (zA.1 hj).1 hj with h2 | h2
   ·exact .inl h2
   ·exact .inr ⟨h2,m.near _ (ok.ends x hx).2.1 h2⟩
  ·exact .inl h1
  ·exact .inr h1
theorem PO {far:List Int} {i:Nat} {n:Int} (h:far[i]? =some 0)(hn:n≠0):(far.set i n).count 0+1=far.count 0:=by
 induction far generalizing i with
 | nil=>simp at h
 | cons b far ih=>
  cases i with
  | zero=>
   simp at h;subst h
   simp [List.count_cons,hn]
  | succ i=>
   have:=ih (i:=i) (by simpa using h);rw [List.set_cons_succ,List.count_cons,List.count_cons];omega
def TT (v:bn)(p:List Bytes)(y t:Bytes)(n:Int):Prop:=(n= -1∧ ∀k,¬Rk v (p++[y]) y k t)∨(0≤n∧n≤63∧Rk v (p++[y]) y n.toNat t∧ ∀k,Rk v (p++[y]) y k t→n.toNat≤k)
theorem Je (ok:aV v) {p:List Bytes} {y t:Bytes} {n:Int} (h:TT v p y t n):lU v (p++[y]) t=decide (0≤n∧(p.length:Int)+1+n≤16):=by
 rw [Bool.eq_iff_iff,KV ok t (by simp),decide_eq_true_iff,jA];rcases h with⟨rfl,h⟩ | ⟨h0,h63,h1,h2⟩
 ·constructor
  ·rintro⟨k,hk,_⟩;exact absurd hk (h k)
  ·rintro⟨h,_⟩;omega
 ·constructor
  ·rintro⟨k,hk,hl⟩;have:=h2 k hk;simp at hl;omega
  ·rintro⟨_,hl⟩;exact⟨n.toNat,h1,by simp;omega⟩
end
end Go.Toll
end
section
namespace Go.Toll
open Go Go.Abs
section
variable {v : bn} {S F M p : List Bytes} {i j n : Nat} {x y t : Bytes}
end
end Go.Toll
end
section
namespace Go.Toll
open Go Go.Abs
theorem Sz (n:bn)(s:Bytes):(dF n s).isSome=aF (cu n).pts s:=by
 unfold dF cu;split
 ·rw [Bool.eq_iff_iff,List.find?_isSome];simp [aF]
 ·rfl
section
variable {v : bn}
theorem NU (ok:aV v) {a:Bytes} {l:List Bytes} {s:Int×Int} (ha:aF v.pts a=true)(h:wk v a l=some s):bM v (a::l)=(s.1,s.2,0)∧ ∀z∈a::l,aF v.pts z=true:=by
 have hp: ∀z∈a::l,aF v.pts z=true:=fun z hz=>by
  rcases List.mem_cons.1 hz with e | e
  ·rw [e];exact ha
  ·exact (Iu ok h).1 z e
 refine⟨?_,hp⟩;rw [kH hp,h]
structure Gf (v:bn)(a b:Bytes)(q:List Bytes)(l:List Bytes)(s:Int×Int):Prop where
 eq:q=a::l
 bnd:bM v q=(s.1,s.2,0)
 walk:wk v a l=some s
 ends:dN a l=b
 nd:q.Nodup
 len:q.length≤16
 pts: ∀z∈q,aF v.pts z=true
theorem Nk (ok:aV v) {a b:Bytes} {i:Nat} {q:List Bytes} (h:(fD v a b).1[i]? =some q): ∃l s,Gf v a b q l s:=by
 obtain⟨l,s,h1,h2,h3,h4,h5,h6,_⟩:=(zw ok a b).2.2 q (zF h);subst h1;have:=NU ok h6 h2;exact⟨l,s,rfl,this.1,h2,h3,h4,h5,this.2⟩
theorem NP {a b:Bytes} {l:List Bytes} {d:Int} (h:rD v a b l d) {q l':List Bytes} {s:Int×Int} (p:Gf v a b q l' s):d≤s.1∧(s.1=d→ ¬q.length<l.length+1∧(q.length=l.length+1→0≤dQ q (a::l))):=by
 have hb:=h.best l' s p.walk p.ends;have hq:=p.eq;subst hq;unfold Ed at hb;have han:=uq (a::l) (a::l');simp only [List.length_cons] at hb ⊢;rcases hb with c | ⟨c,c2⟩
 ·exact⟨by omega,fun e=>by omega⟩
 ·refine⟨by omega,fun _=>⟨by omega,fun e=>by omega⟩⟩
end
end Go.Toll
end
