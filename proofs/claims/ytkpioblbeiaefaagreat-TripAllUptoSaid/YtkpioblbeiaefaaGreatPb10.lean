/- Part 10 of the lemmas below the statements of this seat: TollGraph. -/
import Derived.Test.YtkpioblbeiaefaaGreatPb09
set_option linter.unusedSectionVars false
set_option linter.unusedVariables false
set_option linter.unusedSimpArgs false
set_option linter.unnecessarySimpa false
set_option maxRecDepth 100000
section
namespace Go.Toll
open Go Go.Abs
structure aY (v:bv):Prop where
 plen:v.pts.length≤64
 llen:v.lks.length≤128
 nd:(v.pts.map (·.name)).Nodup
 short: ∀p∈v.pts,fE p.name=true
 ends: ∀x∈v.lks,aL v.pts x.src=true∧aL v.pts x.dst=true∧x.src≠x.dst
 one:v.lks.Pairwise fun x y=> ¬(x.src=y.src∧x.dst=y.dst)
 rng: ∀x∈v.lks,1≤x.min∧x.min≤x.max∧x.max≤2147483648
theorem vN (l:List Pt)(s:Bytes):aL l s=true↔s∈l.map (·.name):=by
 rw [aL,List.any_eq_true,List.mem_map];constructor
 ·rintro⟨p,hp,h⟩;exact⟨p,hp,of_decide_eq_true h⟩
 ·rintro⟨p,hp,rfl⟩;exact⟨p,hp,by simp⟩
theorem yz (l m:List Pt)(s:Bytes):aL (l++m) s=(aL l s || aL m s):=by simp [aL]
theorem Il: ∀ {l before:List Pt},ib before l=0→(∀p∈l,fE p.name=true∧aL before p.name=false)∧(l.map (·.name)).Nodup
 | [],_,_=>by simp
 | p::l,before,h=>by
  rw [ib] at h;split at h
  ·cases h
  rename_i h1;split at h
  ·cases h
  rename_i h2;split at h
  ·cases h
  split at h
  ·cases h
  obtain⟨i1,i2⟩:=Il h;refine⟨fun q hq=> ?_,?_⟩
  ·rcases List.mem_cons.1 hq with rfl | hq
   ·exact⟨by simpa using h1,by simpa using h2⟩
   ·obtain⟨j1,j2⟩:=i1 q hq;rw [yz,Bool.or_eq_false_iff] at j2;exact⟨j1,j2.1⟩
  ·rw [List.map_cons,List.nodup_cons];refine⟨fun hm=> ?_,i2⟩;obtain⟨q,hq,e⟩:=List.mem_map.1 hm;have j2:=(i1 q hq).2;rw [yz,Bool.or_eq_false_iff] at j2;simp [aL,e] at j2
theorem D8 {pts:List Pt}: ∀ {l before:List Lk},jM pts before l=0→
  (∀x∈l,(aL pts x.src=true∧aL pts x.dst=true∧x.src≠x.dst)∧(1≤x.min∧x.min≤x.max∧x.max≤2147483648)∧ ∀y∈before,¬(y.src=x.src∧y.dst=x.dst))∧l.Pairwise fun x y=> ¬(x.src=y.src∧x.dst=y.dst)
 | [],_,_=>by simp
 | x::l,before,h=>by
  rw [jM] at h;split at h
  ·cases h
  rename_i h1;split at h
  ·cases h
  rename_i h2;split at h
  ·cases h
  rename_i h3;obtain⟨i1,i2⟩:=D8 h;refine⟨fun y hy=> ?_,List.pairwise_cons.2 ⟨fun y hy=>(i1 y hy).2.2 x (by simp),i2⟩⟩;rcases List.mem_cons.1 hy with rfl | hy
  ·refine⟨⟨?_,?_,?_⟩,by omega,fun z hz hc=>h2 ?_⟩
   ·cases e:aL pts y.src
    ·exact absurd (.inl e) h1
    ·rfl
   ·cases e:aL pts y.dst
    ·exact absurd (.inr (.inl e)) h1
    ·rfl
   ·exact fun e=>h1 (.inr (.inr e))
   ·rw [List.any_eq_true];exact⟨z,hz,by simp [hc]⟩
  ·obtain⟨j1,j2,j3⟩:=i1 y hy;exact⟨j1,j2,fun z hz=>j3 z (by simp [hz])⟩
theorem vQ {n:bv} (h:fA n=0):aY n:=by
 have hl:=xI h;unfold fA at h;split at h
 ·cases h
 split at h
 ·rename_i h2;exact absurd h h2
 rename_i h2;have h2:ib [] n.pts=0:=by simpa using h2
 obtain⟨p1,p2⟩:=Il h2;obtain⟨l1,l2⟩:=D8 h;exact⟨hl.1,hl.2,p2,fun p hp=>(p1 p hp).1,fun x hx=>(l1 x hx).1,l2,fun x hx=>(l1 x hx).2.1⟩
theorem oh (n:bv):aY (cO n):=by
 unfold cO;split
 ·rename_i h;exact vQ h
 ·exact⟨by simp,by simp,by simp,by simp,by simp,by simp,by simp⟩
def bM (v:bv):List Bytes:=ll (v.pts.map (·.name))
def lD (v:bv)(s:Bytes):List Lk:=(v.lks.filter fun x=>decide (x.src=s)).mergeSort fun x y=>decide (x.dst≤y.dst)
def df (v:bv)(s:Bytes):List Bytes:=(lD v s).map (·.dst)
def lkOf (v:bv)(a b:Bytes):Option Lk:=v.lks.find? fun x=>decide (x.src=a) && decide (x.dst=b)
def eG:Bytes→List Bytes→Bytes
 | a,[]=>a
 | _,b::l=>eG b l
def wk (v:bv):Bytes→List Bytes→Option (Int×Int)
 | _,[]=>some (0,0)
 | a,b::l=>match lkOf v a b,wk v b l with
  | some x,some s=>some (x.min+s.1,x.max+s.2)
  | _,_=>none
section
variable {v : bv}
theorem uZ (v:bv)(s:Bytes):s∈bM v↔aL v.pts s=true:=by rw [bM,Aq,vN]
theorem mF (v:bv):(bM v).length=v.pts.length:=by rw [bM,II,List.length_map]
theorem aY.nodup (ok:aY v):(bM v).Nodup:=Br ok.nd
theorem Tt (v:bv):oF (bM v):=IG _
theorem aY.name (ok:aY v) {s:Bytes} (h:aL v.pts s=true):fE s=true:=by
 obtain⟨p,hp,rfl⟩:=List.mem_map.1 ((vN _ _).1 h);exact ok.short p hp
theorem SN {s:Bytes} (h:fE s=true):s.length≤12:=by
 simp [fE] at h;omega
theorem jA (v:bv)(s:Bytes)(x:Lk):x∈lD v s↔x∈v.lks∧x.src=s:=by
 rw [lD,(List.mergeSort_perm _ _).mem_iff,List.mem_filter];simp
theorem Ab (v:bv)(s:Bytes):(lD v s).length≤v.lks.length:=by
 rw [lD,List.length_mergeSort];exact List.length_filter_le _ _
theorem Hz (v:bv)(s:Bytes):(lD v s).Pairwise fun x y=>decide (x.dst≤y.dst)=true:=
 List.pairwise_mergeSort (fun a b c=>Hy a.dst b.dst c.dst) (fun a b=>Hw a.dst b.dst) _
theorem aY.uniq (ok:aY v) {x y:Lk} (hx:x∈v.lks)(hy:y∈v.lks)(h1:x.src=y.src)(h2:x.dst=y.dst):x=y:=by
 have: ∀l:List Lk,l.Pairwise (fun x y=> ¬(x.src=y.src∧x.dst=y.dst))→x∈l→y∈l→x=y:=by
  intro l
  induction l with
  | nil=>intro _ h;cases h
  | cons z l ih=>
   intro hp hx hy;obtain⟨p1,p2⟩:=List.pairwise_cons.1 hp;rcases List.mem_cons.1 hx with ex | hx' <;> rcases List.mem_cons.1 hy with ey | hy'
   ·rw [ex,ey]
   ·rw [ex] at h1 h2;exact absurd ⟨h1,h2⟩ (p1 y hy')
   ·rw [ey] at h1 h2;exact absurd ⟨h1.symm,h2.symm⟩ (p1 x hx')
   ·exact ih p2 hx' hy'
 exact this _ ok.one hx hy
theorem aY.dstnd (ok:aY v)(s:Bytes):((lD v s).map (·.dst)).Nodup:=by
 have h:((v.lks.filter fun x=>decide (x.src=s)).map (·.dst)).Nodup:=by
  refine List.pairwise_map.2 ?_;have h1:=ok.one.sublist (List.filter_sublist (p:=fun x=>decide (x.src=s)) (l:=v.lks));refine List.Pairwise.imp_of_mem ?_ h1;intro x y hx hy hne e;exact hne ⟨by rw [of_decide_eq_true (List.mem_filter.1 hx).2,of_decide_eq_true (List.mem_filter.1 hy).2],e⟩
 exact (((List.mergeSort_perm _ _).map _).nodup_iff).2 h
theorem H7 (v:bv)(s:Bytes):oF (df v s):=List.pairwise_map.2 (Hz v s)
theorem aY.nextnd (ok:aY v)(s:Bytes):(df v s).Nodup:=ok.dstnd s
theorem lM (v:bv)(s t:Bytes):t∈df v s↔ ∃x∈v.lks,x.src=s∧x.dst=t:=by
 rw [df,List.mem_map];constructor
 ·rintro⟨x,hx,rfl⟩;exact⟨x,((jA v s x).1 hx).1,((jA v s x).1 hx).2,rfl⟩
 ·rintro⟨x,hx,h1,h2⟩;exact⟨x,(jA v s x).2 ⟨hx,h1⟩,h2⟩
theorem SS (ok:aY v)(s:Bytes):df v s=BL [] ((v.lks.filter fun x=>decide (x.src=s)).map (·.dst)):=by
 obtain⟨i1,i2,i3⟩:=Lc ((v.lks.filter fun x:Lk=>decide (x.src=s)).map fun x:Lk=>x.dst) [] (by simp [oF]) (by simp);refine CV (H7 v s) i1 (ok.nextnd s) i2 fun t=> ?_;rw [i3,lM,List.mem_map];simp [List.mem_filter,and_assoc]
theorem gF {a b:Bytes} {x:Lk} (h:lkOf v a b=some x):x∈v.lks∧x.src=a∧x.dst=b:=by
 have h1:=List.mem_of_find?_eq_some h;have h2:=List.find?_some h;simp at h2;exact⟨h1,h2⟩
theorem aY.lkOf (ok:aY v) {x:Lk} (hx:x∈v.lks):lkOf v x.src x.dst=some x:=by
 cases e:Go.Toll.lkOf v x.src x.dst with
 | none=>
  have:=List.find?_eq_none.1 e x hx;simp at this
 | some y=>
  obtain⟨h1,h2,h3⟩:=gF e;rw [ok.uniq h1 hx h2 h3]
theorem z8 (ok:aY v)(a b:Bytes):b∈df v a↔ ∃x,lkOf v a b=some x:=by
 rw [lM];constructor
 ·rintro⟨x,hx,rfl,rfl⟩;exact⟨x,ok.lkOf hx⟩
 ·rintro⟨x,h⟩;obtain⟨h1,h2,h3⟩:=gF h;exact⟨x,h1,h2,h3⟩
@[simp] theorem Uq (v:bv) (a:Bytes):wk v a []=some (0,0):=rfl
theorem fw {a b:Bytes} {l:List Bytes} {s:Int×Int}:wk v a (b::l)=some s↔ ∃x t,lkOf v a b=some x∧wk v b l=some t∧s=(x.min+t.1,x.max+t.2):=by
 rw [wk]
 cases e1:lkOf v a b with
 | none=>simp
 | some x=>
  cases e2:wk v b l with
  | none=>simp
  | some t=>
   simp only [Option.some.injEq];constructor
   ·rintro rfl;exact⟨x,t,rfl,rfl,rfl⟩
   ·rintro⟨_,_,rfl,rfl,h⟩;exact h.symm
theorem vK (a:Bytes): ∀(x y:List Bytes),eG a (x++y)=eG (eG a x) y
 | [],y=>rfl
 | b::x,y=>vK b x y
theorem gJ (a:Bytes)(x:List Bytes)(b:Bytes):eG a (x++[b])=b:=by rw [vK];rfl
theorem mY {a:Bytes}: ∀ {x y:List Bytes} {s:Int×Int},wk v a (x++y)=some s↔ ∃t u,wk v a x=some t∧wk v (eG a x) y=some u∧s=(t.1+u.1,t.2+u.2)
 | [],y,s=>by
  simp only [List.nil_append,Uq,eG,Option.some.injEq];constructor
  ·intro h;exact⟨(0,0),s,rfl,h,by simp⟩
  ·rintro⟨t,u,rfl,h,rfl⟩;simpa using h
 | b::x,y,s=>by
  rw [List.cons_append,fw];constructor
  ·rintro⟨z,t,h1,h2,rfl⟩;obtain⟨t1,u,h3,h4,rfl⟩:=mY.1 h2;exact⟨(z.min+t1.1,z.max+t1.2),u,fw.2 ⟨z,t1,h1,h3,rfl⟩,h4,by simp [Int.add_assoc]⟩
  ·rintro⟨t,u,h1,h2,rfl⟩;obtain⟨z,t1,h3,h4,rfl⟩:=fw.1 h1;exact⟨z,(t1.1+u.1,t1.2+u.2),h3,mY.2 ⟨t1,u,h4,h2,rfl⟩,by simp [Int.add_assoc]⟩
theorem vF (ok:aY v) {a:Bytes}: ∀ {l:List Bytes} {s:Int×Int},wk v a l=some s→(l.length:Int)≤s.1∧s.1≤s.2∧s.2≤l.length*2147483648
 | [],s,h=>by
  obtain rfl:=Option.some.inj h;simp
 | b::l,s,h=>by
  obtain⟨x,t,h1,h2,rfl⟩:=fw.1 h;obtain⟨i1,i2,i3⟩:=vF ok h2;obtain⟨r1,r2,r3⟩:=ok.rng x (gF h1).1;simp only [List.length_cons]
  push_cast
  omega
theorem Kn (ok:aY v) {a:Bytes}: ∀ {l:List Bytes} {s:Int×Int},wk v a l=some s→(∀z∈l,aL v.pts z=true)∧(l≠[]→aL v.pts a=true)
 | [],s,h=>by simp
 | b::l,s,h=>by
  obtain⟨x,t,h1,h2,rfl⟩:=fw.1 h;obtain⟨i1,i2⟩:=Kn ok h2;obtain⟨m,e1,e2⟩:=gF h1;obtain⟨p1,p2,_⟩:=ok.ends x m;rw [e1] at p1;rw [e2] at p2
  refine⟨fun z hz=> ?_,fun _=>p1⟩;rcases List.mem_cons.1 hz with rfl | hz
  ·exact p2
  ·exact i1 z hz
theorem qK (a:Bytes): ∀l:List Bytes,eG a l∈a::l
 | []=>by simp [eG]
 | b::l=>List.mem_cons_of_mem _ (qK b l)
theorem nZ (ok:aY v): ∀(n:Nat) (a:Bytes) (l:List Bytes) (s:Int×Int),l.length≤n→wk v a l=some s→
  ∃l' s',wk v a l'=some s'∧eG a l'=eG a l∧(a::l').Nodup∧(∀z∈l',z∈l)∧(l'=l∨(s'.1<s.1∧l'.length<l.length))
 | 0,a,l,s,hn,h=>by
  obtain rfl:l=[]:=List.length_eq_zero_iff.1 (by omega);exact⟨[],s,h,rfl,by simp,by simp,.inl rfl⟩
 | n+1,a,[],s,hn,h=>⟨[],s,h,rfl,by simp,by simp,.inl rfl⟩
 | n+1,a,b::l,s,hn,h=>by
  by_cases ha:a∈b::l
  ·obtain⟨x,y,e⟩:=List.append_of_mem ha;rw [e,show x++a::y=(x++[a])++y by simp] at h;obtain⟨t,u,h1,h2,rfl⟩:=mY.1 h;rw [gJ] at h2;have hr:=vF ok h1;have hyl:y.length≤n:=by
    have:=congrArg List.length e;simp at this hn;omega
   obtain⟨l',s',q1,q2,q3,q4,q5⟩:=nZ ok n a y u hyl h2;simp at hr;have hlen:=congrArg List.length e;simp at hlen;refine⟨l',s',q1,?_,q3,fun z hz=> ?_,.inr ⟨?_,?_⟩⟩
   ·rw [q2,e,show x++a::y=(x++[a])++y by simp,vK,gJ]
   ·rw [e];simp [q4 z hz]
   ·rcases q5 with rfl | ⟨q5,q6⟩
    ·have:s'=u:=by rw [q1] at h2;exact Option.some.inj h2
     subst this;show s'.1<t.1+s'.1;omega
    ·show s'.1<t.1+u.1;omega
   ·rcases q5 with rfl | ⟨q5,q6⟩
    ·simp;omega
    ·simp;omega
  ·obtain⟨x,t,h1,h2,rfl⟩:=fw.1 h;obtain⟨l',s',q1,q2,q3,q4,q5⟩:=nZ ok n b l t (by simpa using hn) h2;refine⟨b::l',(x.min+s'.1,x.max+s'.2),fw.2 ⟨x,s',h1,q1,rfl⟩,q2,List.nodup_cons.2 ⟨fun hm=>ha ?_,q3⟩,fun z hz=> ?_,?_⟩
   ·rcases List.mem_cons.1 hm with rfl | hm
    ·simp
    ·exact List.mem_cons_of_mem _ (q4 a hm)
   ·rcases List.mem_cons.1 hz with rfl | hz
    ·simp
    ·exact List.mem_cons_of_mem _ (q4 z hz)
   ·rcases q5 with rfl | ⟨q5,q6⟩
    ·exact .inl rfl
    ·exact .inr ⟨by show x.min+s'.1<x.min+t.1;omega,by simpa using q6⟩
theorem qj: ∀ {l m:List Bytes},l.Nodup→(∀z∈l,z∈m)→l.length≤m.length
 | [],m,_,_=>by simp
 | a::l,m,hn,h=>by
  obtain⟨h1,h2⟩:=List.nodup_cons.1 hn;have ha:=h a List.mem_cons_self;have:=qj (m:=m.erase a) h2 fun z hz=>(List.mem_erase_of_ne (fun e:z=a=>h1 (by rw [←e];exact hz))).2 (h z (List.mem_cons_of_mem _ hz));rw [List.length_erase_of_mem ha] at this;have:=List.length_pos_of_mem ha;simp;omega
theorem sS (ok:aY v) {a:Bytes} {l:List Bytes} {s:Int×Int} (h:wk v a l=some s)(ha:aL v.pts a=true)(hn:(a::l).Nodup):l.length+1≤v.pts.length:=by
 have:=qj (m:=bM v) hn fun z hz=>(uZ v z).2 (by
  rcases List.mem_cons.1 hz with rfl | hz
  ·exact ha
  ·exact (Kn ok h).1 z hz)
 rw [mF] at this;simpa using this
end
def uS (v:bv)(s:Bytes)(i:Nat):List Bytes:=BL [] (((v.lks.take i).filter fun x=>decide (x.src=s)).map (·.dst))
theorem Qy (o l:List Bytes)(s:Bytes):BL o (l++[s])=pz (BL o l) s:=by rw [BL,List.foldl_append];rfl
theorem NR {v:bv} {i:Nat} {x:Lk} (s:Bytes)(h:v.lks[i]? =some x):uS v s (i+1)=if x.src=s then pz (uS v s i) x.dst else uS v s i:=by
 rw [uS,zM,h,Option.toList_some,List.filter_append];by_cases e:x.src=s
 ·rw [if_pos e];simp only [List.filter_cons,e,decide_true,if_true,List.filter_nil,List.map_append,List.map_cons,List.map_nil,Qy];rfl
 ·rw [if_neg e];simp [e,uS]
theorem QR {v:bv} (ok:aY v)(s:Bytes) {i:Nat} (h:v.lks.length≤i):uS v s i=df v s:=by rw [uS,zG h,SS ok]
theorem Ld: ∀(l o:List Bytes),(BL o l).length≤o.length+l.length
 | [],o=>by simp [Le]
 | s::l,o=>by
  rw [Hl];have:=Ld l (pz o s);have:=D5 o s;simp;omega
theorem QS (v:bv)(s:Bytes)(i:Nat):(uS v s i).length≤i:=by
 have:=Ld (((v.lks.take i).filter fun x=>decide (x.src=s)).map (·.dst)) [];have h2:=List.length_filter_le (fun x:Lk=>decide (x.src=s)) (v.lks.take i);rw [uS];simp at this h2 ⊢;omega
def xB (v:bv)(a b:Bytes)(k:Nat):Option Lk:=(v.lks.take k).find? fun x=>decide (x.src=a) && decide (x.dst=b)
theorem Aa (v:bv)(a b:Bytes):xB v a b 0=none:=rfl
theorem Sw (v:bv)(a b:Bytes):xB v a b v.lks.length=lkOf v a b:=by rw [xB,List.take_length];rfl
theorem QI {v:bv} {k:Nat} {x:Lk} (a b:Bytes)(h:v.lks[k]? =some x)(hn: ¬(x.src=a∧x.dst=b)):xB v a b (k+1)=xB v a b k:=by
 rw [xB,zM,h,Option.toList_some,List.find?_append];have:(decide (x.src=a) && decide (x.dst=b))=false:=by
  rw [Bool.and_eq_false_iff];by_cases e:x.src=a
  ·right;exact decide_eq_false fun e2=>hn ⟨e,e2⟩
  ·left;exact decide_eq_false e
 simp only [List.find?_cons,this,List.find?_nil,Option.or_none];rfl
theorem Sy {v:bv} (ok:aY v) {k:Nat} {x:Lk} (h:v.lks[k]? =some x):xB v x.src x.dst k=none∧xB v x.src x.dst (k+1)=some x:=by
 have hk:=aK h;have hn:xB v x.src x.dst k=none:=by
  rw [xB,List.find?_eq_none];intro y hy hc;obtain⟨j,hj⟩:=List.getElem?_of_mem hy;have hjl:=aK hj;rw [List.length_take] at hjl;rw [List.getElem?_take_of_lt (by omega)] at hj;have hp:=List.pairwise_iff_getElem.1 ok.one j k (by omega) hk (by omega);rw [(zA.1 hj).2,(zA.1 h).2] at hp;exact hp (by simpa using hc)
 refine⟨hn,?_⟩;rw [xB] at hn;rw [xB,zM,h,Option.toList_some,List.find?_append,hn];simp
def bN (v:bv)(p:List Bytes):Int×Int×Int:=match p with
 | []=>(0,0,16)
 | a::l=>if (a::l).all (aL v.pts) then (match wk v a l with
  | some s=>(s.1,s.2,0)
  | none=>(0,0,21)) else (0,0,16)
theorem um {v:bv} {p:List Bytes} (hne:p≠[])(h: ∃s∈p,aL v.pts s=false):bN v p=(0,0,16):=by
 cases p with
 | nil=>exact absurd rfl hne
 | cons a l=>
  obtain⟨s,hs,h⟩:=h;rw [bN,if_neg];intro hc;rw [List.all_eq_true.1 hc s hs] at h;cases h
theorem kr {v:bv} {a:Bytes} {l:List Bytes} (h: ∀s∈a::l,aL v.pts s=true):bN v (a::l)=match wk v a l with
  | some s=>(s.1,s.2,0)
  | none=>(0,0,21):=by
 rw [bN,if_pos (List.all_eq_true.2 h)]
def iter {α:Type} (f:α→α):Nat→α→α
 | 0,x=>x
 | n+1,x=>f (iter f n x)
def gI (out:List Bytes)(x:Lk):List Bytes:=if x.src∈out then pz out x.dst else out
def mG (v:bv)(out:List Bytes):List Bytes:=v.lks.foldl gI out
def TJ (v:bv)(a:Bytes):List Bytes:=if aL v.pts a then iter (mG v) v.pts.length [a] else []
def Oa (v:bv)(a:Bytes)(r i:Nat):List Bytes:=(v.lks.take i).foldl gI (iter (mG v) r [a])
theorem Q6 (v:bv)(a:Bytes)(r:Nat):Oa v a r 0=iter (mG v) r [a]:=rfl
theorem TG (v:bv)(a:Bytes)(r:Nat):Oa v a r v.lks.length=Oa v a (r+1) 0:=by
 rw [Oa,List.take_length];rfl
theorem EF: ∀(ls:List Lk) (out:List Bytes),(ls.foldl gI out).length≤out.length+ls.length
 | [],_=>by simp
 | x::ls,out=>by
  rw [List.foldl_cons];have h1:=EF ls (gI out x);have h2:(gI out x).length≤out.length+1:=by
   unfold gI;split
   ·exact D5 _ _
   ·omega
  simp;omega
theorem TH {v:bv} (hl:v.lks.length≤128)(a:Bytes): ∀r i,i≤v.lks.length→(Oa v a r i).length≤1+128*r+i
 | 0,i,hi=>by
  have:=EF (v.lks.take i) [a];rw [Oa,iter];simp at this ⊢;omega
 | r+1,i,hi=>by
  have h1:=EF (v.lks.take i) (iter (mG v) (r+1) [a]);have h2:=TH hl a r v.lks.length (Nat.le_refl _);rw [TG,Q6] at h2;rw [Oa];simp at h1 ⊢;omega
def RP (v:bv)(a b:Bytes):Prop:= ∃l s,wk v a l=some s∧eG a l=b
section
variable {v : bv}
theorem RP.refl (a:Bytes):RP v a a:=⟨[],(0,0),rfl,rfl⟩
theorem RP.step (ok:aY v) {a:Bytes} {x:Lk} (hx:x∈v.lks)(h:RP v a x.src):RP v a x.dst:=by
 obtain⟨l,s,h1,h2⟩:=h;refine⟨l++[x.dst],(s.1+(x.min+0),s.2+(x.max+0)),mY.2 ⟨s,(x.min+0,x.max+0),h1,?_,rfl⟩,gJ _ _ _⟩;rw [h2];exact fw.2 ⟨x,(0,0),ok.lkOf hx,rfl,rfl⟩
theorem LX (ok:aY v)(a:Bytes): ∀(ls:List Lk) (out:List Bytes),(∀x∈ls,x∈v.lks)→oF out→out.Nodup→(∀t∈out,RP v a t)→
  oF (ls.foldl gI out)∧(ls.foldl gI out).Nodup∧(∀t∈ls.foldl gI out,RP v a t)∧(∀t∈out,t∈ls.foldl gI out)∧ ∀x∈ls,x.src∈out→x.dst∈ls.foldl gI out
 | [],out,_,h1,h2,h3=>⟨h1,h2,h3,fun t h=>h,by simp⟩
 | x::ls,out,hl,h1,h2,h3=>by
  have hs:oF (gI out x)∧(gI out x).Nodup∧(∀t∈gI out x,RP v a t)∧(∀t∈out,t∈gI out x)∧(x.src∈out→x.dst∈gI out x):=by
   unfold gI;split
   ·rename_i hx;refine⟨DZ _ h1,xn _ h2,fun t ht=> ?_,fun t ht=>(uN _ _ _).2 (.inr ht),fun _=>(uN _ _ _).2 (.inl rfl)⟩;rcases (uN _ _ _).1 ht with rfl | ht
    ·exact (h3 _ hx).step ok (hl x List.mem_cons_self)
    ·exact h3 t ht
   ·rename_i hx;exact⟨h1,h2,h3,fun t h=>h,fun h=>absurd h hx⟩
  obtain⟨s1,s2,s3,s4,s5⟩:=hs;obtain⟨i1,i2,i3,i4,i5⟩:=LX ok a ls _ (fun y hy=>hl y (List.mem_cons_of_mem _ hy)) s1 s2 s3;rw [List.foldl_cons];refine⟨i1,i2,i3,fun t ht=>i4 t (s4 t ht),fun y hy hs=> ?_⟩;rcases List.mem_cons.1 hy with rfl | hy
  ·exact i4 _ (s5 hs)
  ·exact i5 y hy (s4 _ hs)
theorem LY (ok:aY v)(a:Bytes): ∀n,oF (iter (mG v) n [a])∧(iter (mG v) n [a]).Nodup∧(∀t∈iter (mG v) n [a],RP v a t)∧ ∀l s,l.length≤n→wk v a l=some s→eG a l∈iter (mG v) n [a]
 | 0=>by
  refine⟨by simp [iter,oF],by simp [iter],fun t ht=> ?_,fun l s hl h=> ?_⟩
  ·rw [iter,List.mem_singleton] at ht;subst ht;exact RP.refl _
  ·obtain rfl:l=[]:=List.length_eq_zero_iff.1 (by omega);simp [iter,eG]
 | n+1=>by
  obtain⟨i1,i2,i3,i4⟩:=LY ok a n;obtain⟨j1,j2,j3,j4,j5⟩:=LX ok a v.lks _ (fun _ h=>h) i1 i2 i3;refine⟨j1,j2,j3,fun l s hl h=> ?_⟩;rcases List.eq_nil_or_concat l with rfl | ⟨l',b,rfl⟩
  ·exact j4 _ (i4 [] (0,0) (by simp) rfl)
  ·rw [List.concat_eq_append] at h hl ⊢;obtain⟨t,u,h1,h2,_⟩:=mY.1 h;obtain⟨x,_,h3,_,_⟩:=fw.1 h2;obtain⟨m,e1,e2⟩:=gF h3;rw [gJ,←e2];refine j5 x m ?_;rw [e1];exact i4 l' t (by simp at hl;omega) h1
theorem Xq (ok:aY v)(a b:Bytes):b∈TJ v a↔aL v.pts a=true∧RP v a b:=by
 unfold TJ;split
 ·rename_i ha;obtain⟨i1,i2,i3,i4⟩:=LY ok a v.pts.length;constructor
  ·intro h;exact⟨ha,i3 b h⟩
  ·rintro⟨_,l,s,h1,h2⟩;obtain⟨l',s',q1,q2,q3,_⟩:=nZ ok _ a l s (Nat.le_refl _) h1;have:=sS ok q1 ha q3;rw [←h2,←q2];exact i4 l' s' (by omega) q1
 ·rename_i ha;simp [ha]
end
end Go.Toll
end
section
namespace Go.Toll
open Go Go.Abs
def FT (d:Int)(p:List Bytes)(e:Int)(q:List Bytes):Prop:=d<e∨(d=e∧(p.length<q.length∨(p.length=q.length∧fq p q≤0)))
theorem yh (d:Int)(p:List Bytes):FT d p d p:= .inr ⟨rfl,.inr ⟨rfl,by rw [Ik];omega⟩⟩
theorem nU {d e f:Int} {p q r:List Bytes} (h1:FT d p e q)(h2:FT e q f r):FT d p f r:=by
 unfold FT at*;rcases h1 with h1 | ⟨rfl,h1⟩
 ·rcases h2 with h2 | ⟨rfl,h2⟩
  ·exact .inl (by omega)
  ·exact .inl h1
 ·rcases h2 with h2 | ⟨rfl,h2⟩
  ·exact .inl h2
  ·refine .inr ⟨rfl,?_⟩;rcases h1 with h1 | ⟨h1,h1'⟩
   ·rcases h2 with h2 | ⟨h2,_⟩ <;> exact .inl (by omega)
   ·rcases h2 with h2 | ⟨h2,h2'⟩
    ·exact .inl (by omega)
    ·exact .inr ⟨by omega,Ez h1' h2'⟩
theorem Jf {d e:Int} {p q:List Bytes} (h1:FT d p e q)(h2:FT e q d p):d=e∧p=q:=by
 unfold FT at*;rcases h1 with h1 | ⟨rfl,h1⟩
 ·rcases h2 with h2 | ⟨rfl,h2⟩
  ·omega
  ·omega
 ·rcases h2 with h2 | ⟨_,h2⟩
  ·omega
  ·refine⟨rfl,?_⟩;rcases h1 with h1 | ⟨h1,h1'⟩
   ·rcases h2 with h2 | ⟨h2,_⟩ <;> omega
   ·rcases h2 with h2 | ⟨h2,h2'⟩
    ·omega
    ·have:=vU p q;exact vV.1 (by omega)
theorem UI {d e:Int} {p q:List Bytes} (m:Int)(z:Bytes)(h:FT d p e q):FT (d+m) (p++[z]) (e+m) (q++[z]):=by
 unfold FT at*;rcases h with h | ⟨rfl,h⟩
 ·exact .inl (by omega)
 ·refine .inr ⟨rfl,?_⟩;rcases h with h | ⟨h,h'⟩
  ·exact .inl (by simp;omega)
  ·refine .inr ⟨by simp;omega,?_⟩;rw [Ey _ _ h];split
   ·rw [Ik];omega
   ·exact h'
def Je (d:Int)(p:List Bytes)(e:Int)(q:List Bytes):Bool:=
 if q=[]∨d≠e then decide (q=[]) || decide (d<e) else if p.length≠q.length then decide (p.length<q.length) else decide (fq p q<0)
theorem Qa {d e:Int} {p q:List Bytes} (h:Je d p e q=true)(hq:q≠[]):FT d p e q:=by
 unfold Je at h;split at h
 ·rename_i c;simp [hq] at h;exact .inl h
 ·rename_i c;have c1:d=e:=by
   rcases Decidable.em (d=e) with h | h
   ·exact h
   ·exact absurd (.inr h) c
  split at h
  ·exact .inr ⟨c1,.inl (by simpa using h)⟩
  ·rename_i c2;exact .inr ⟨c1,.inr ⟨by omega,by have:=of_decide_eq_true h;omega⟩⟩
theorem Nb {d e:Int} {p q:List Bytes} (h:Je d p e q=false):q≠[]∧FT e q d p:=by
 unfold Je at h;split at h
 ·rename_i c;rw [Bool.or_eq_false_iff] at h;have h1:q≠[]:=of_decide_eq_false h.1;have h2: ¬d<e:=of_decide_eq_false h.2;refine⟨h1,?_⟩;rcases c with c | c
  ·exact absurd c h1
  ·exact .inl (by omega)
 ·rename_i c;have c0:q≠[]:=fun h=>c (.inl h);have c1:d=e:=by
   rcases Decidable.em (d=e) with h | h
   ·exact h
   ·exact absurd (.inr h) c
  refine⟨c0,?_⟩;split at h
  ·rename_i c2;have h2: ¬p.length<q.length:=of_decide_eq_false h;exact .inr ⟨c1.symm,.inl (by omega)⟩
  ·rename_i c2;have h2: ¬fq p q<0:=of_decide_eq_false h;have:=vU p q;exact .inr ⟨c1.symm,.inr ⟨by omega,by omega⟩⟩
def gZ (l:List Pt)(s:Bytes):Nat:=l.findIdx fun p=>decide (p.name=s)
theorem EB {l:List Pt} {s:Bytes} (h:aL l s=true): ∃p,l[gZ l s]? =some p∧p.name=s:=by
 rw [aL,List.any_eq_true] at h;have hlt:gZ l s<l.length:=List.findIdx_lt_length.2 h;refine⟨l[gZ l s],zB hlt,?_⟩;have:=List.findIdx_getElem (w:=hlt) (p:=fun p:Pt=>decide (p.name=s));exact of_decide_eq_true this
theorem sI {l:List Pt} {s:Bytes} (h:aL l s=true):gZ l s<l.length:=by
 obtain⟨p,hp,_⟩:=EB h;exact (zA.1 hp).1
theorem Tp {l:List Pt} {s t:Bytes} (hs:aL l s=true)(ht:aL l t=true)(h:gZ l s=gZ l t):s=t:=by
 obtain⟨p,hp,rfl⟩:=EB hs;obtain⟨q,hq,rfl⟩:=EB ht;rw [h,hq] at hp;exact (congrArg Pt.name (Option.some.inj hp)).symm
theorem qW {l:List Pt} {s:Bytes} (h:aL l s=true):lv (fun p:Pt=>decide (p.name=s)) l=(gZ l s:Int):=by
 have key: ∀(l:List Pt) (i:Nat),aL l s=true→idxFrom (fun p:Pt=>decide (p.name=s)) i l=((i+gZ l s:Nat):Int):=by
  intro l
  induction l with
  | nil=>intro i h;cases h
  | cons p l ih=>
   intro i h;rw [idxFrom,gZ,List.findIdx_cons];by_cases hp:p.name=s
   ·simp [hp]
   ·rw [aL,List.any_cons,show decide (p.name=s)=false by simp [hp],Bool.false_or] at h;rw [show decide (p.name=s)=false by simp [hp]];have:=ih (i+1) h;simp only [Bool.false_eq_true,if_false,cond_false];rw [this,gZ];omega
 have:=key l 0 h;simpa [lv] using this
abbrev St:=List (List Bytes×Int)
def jr (v:bv)(st:St)(s:Bytes):List Bytes×Int:=st.getD (gZ v.pts s) ([],0)
def jT (v:bv)(st:St)(x:Lk):St:=
 if (jr v st x.src).1=[] then st
 else if Je ((jr v st x.src).2+x.min) ((jr v st x.src).1++[x.dst]) (jr v st x.dst).2 (jr v st x.dst).1 then st.set (gZ v.pts x.dst) ((jr v st x.src).1++[x.dst],(jr v st x.src).2+x.min) else st
def u6 (v:bv)(st:St):St:=v.lks.foldl (jT v) st
def nz (v:bv)(a:Bytes):St:=(v.pts.map fun _=>(([]:List Bytes),(0:Int))).set (gZ v.pts a) ([a],0)
def PQ (v:bv)(a:Bytes):St:=iter (u6 v) v.pts.length (nz v a)
def jf (v:bv)(a b:Bytes):Option (List Bytes×Int):=
 if aL v.pts a=true∧aL v.pts b=true then (if (jr v (PQ v a) b).1=[] then none else some (jr v (PQ v a) b)) else none
structure uf (v:bv)(a b:Bytes)(l:List Bytes)(d:Int):Prop where
 walk: ∃s,wk v a l=some s∧s.1=d
 ends:eG a l=b
 best: ∀l' s,wk v a l'=some s→eG a l'=b→FT d (a::l) s.1 (a::l')
section
variable {v : bv}
theorem uf.uniq {a b:Bytes} {l l':List Bytes} {d d':Int} (h:uf v a b l d)(h':uf v a b l' d'):l=l'∧d=d':=by
 obtain⟨s,w1,rfl⟩:=h.walk;obtain⟨s',w1',rfl⟩:=h'.walk;obtain⟨e1,e2⟩:=Jf (h.best l' s' w1' h'.ends) (h'.best l s w1 h.ends);exact⟨by injection e2,e1⟩
theorem Cw (st:St)(hl:st.length=v.pts.length) {s t:Bytes} (hs:aL v.pts s=true)(ht:aL v.pts t=true)(y:List Bytes×Int):jr v (st.set (gZ v.pts s) y) t=if t=s then y else jr v st t:=by
 unfold jr;rw [List.getD_eq_getElem?_getD,List.getD_eq_getElem?_getD,List.getElem?_set];by_cases h:t=s
 ·subst h;rw [if_pos rfl,if_pos rfl,if_pos (by rw [hl];exact sI ht)];rfl
 ·rw [if_neg h,if_neg (fun e=>h (Tp ht hs e.symm))]
structure PW (v:bv)(a:Bytes)(st:St):Prop where
 len:st.length=v.pts.length
 walk: ∀t,aL v.pts t=true→(jr v st t).1≠[]→ ∃l s,(jr v st t).1=a::l∧wk v a l=some s∧s.1=(jr v st t).2∧eG a l=t
def Fa (v:bv)(st' st:St):Prop:= ∀t,aL v.pts t=true→(jr v st t).1≠[]→(jr v st' t).1≠[]∧FT (jr v st' t).2 (jr v st' t).1 (jr v st t).2 (jr v st t).1
theorem Fa.refl (st:St):Fa v st st:=fun t _ h=>⟨h,yh _ _⟩
theorem Fa.trans {a b c:St} (h1:Fa v a b)(h2:Fa v b c):Fa v a c:=fun t ht h=>by
 obtain⟨p1,p2⟩:=h2 t ht h;obtain⟨q1,q2⟩:=h1 t ht p1;exact⟨q1,nU q2 p2⟩
theorem Tz (ok:aY v) {a:Bytes} {st:St} (h:PW v a st) {x:Lk} (hx:x∈v.lks):PW v a (jT v st x)∧Fa v (jT v st x) st∧
  ((jr v st x.src).1≠[]→(jr v (jT v st x) x.dst).1≠[]∧FT (jr v (jT v st x) x.dst).2 (jr v (jT v st x) x.dst).1 ((jr v st x.src).2+x.min) ((jr v st x.src).1++[x.dst])):=by
 obtain⟨p1,p2,p3⟩:=ok.ends x hx;unfold jT;split
 ·rename_i hz;exact⟨h,Fa.refl _,fun h=>absurd hz h⟩
 rename_i hz;obtain⟨l,s,e1,e2,e3,e4⟩:=h.walk x.src p1 hz;split
 ·rename_i hb;have hne:(jr v st x.src).1++[x.dst]≠[]:=by simp
  refine⟨⟨by rw [List.length_set];exact h.len,fun t ht hh=> ?_⟩,fun t ht hh=> ?_,fun _=> ?_⟩
  ·rw [Cw st h.len p2 ht] at hh ⊢;split
   ·rename_i et;subst et;refine⟨l++[x.dst],(s.1+(x.min+0),s.2+(x.max+0)),by rw [e1];rfl,mY.2 ⟨s,(x.min+0,x.max+0),e2,?_,rfl⟩,?_,gJ _ _ _⟩
    ·rw [e4];exact fw.2 ⟨x,(0,0),ok.lkOf hx,rfl,rfl⟩
    ·show s.1+(x.min+0)=_+x.min;rw [e3];omega
   ·rename_i et;rw [if_neg et] at hh;exact h.walk t ht hh
  ·rw [Cw st h.len p2 ht];split
   ·rename_i et;subst et;exact⟨hne,Qa hb hh⟩
   ·exact⟨hh,yh _ _⟩
  ·rw [Cw st h.len p2 p2,if_pos rfl];exact⟨hne,yh _ _⟩
 ·rename_i hb;have hb:=Nb (by simpa using hb);exact⟨h,Fa.refl _,fun _=>hb⟩
theorem EC (ok:aY v) {a:Bytes}: ∀(ls:List Lk) {st:St},(∀x∈ls,x∈v.lks)→PW v a st→PW v a (ls.foldl (jT v) st)∧Fa v (ls.foldl (jT v) st) st∧
  ∀x∈ls,∀d p,p≠[]→(jr v st x.src).1≠[]→FT (jr v st x.src).2 (jr v st x.src).1 d p→(jr v (ls.foldl (jT v) st) x.dst).1≠[]∧FT (jr v (ls.foldl (jT v) st) x.dst).2 (jr v (ls.foldl (jT v) st) x.dst).1 (d+x.min) (p++[x.dst])
 | [],st,_,h=>⟨h,Fa.refl _,by simp⟩
 | y::ls,st,hl,h=>by
  obtain⟨s1,s2,s3⟩:=Tz ok h (hl y List.mem_cons_self);obtain⟨i1,i2,i3⟩:=EC ok ls (fun z hz=>hl z (List.mem_cons_of_mem _ hz)) s1;rw [List.foldl_cons];refine⟨i1,i2.trans s2,fun x hx d p hp hne hb=> ?_⟩;rcases List.mem_cons.1 hx with rfl | hx
  ·obtain⟨q1,q2⟩:=s3 hne;obtain⟨r1,r2⟩:=i2 x.dst (ok.ends x (hl x List.mem_cons_self)).2.1 q1;exact⟨r1,nU r2 (nU q2 (UI _ _ hb))⟩
  ·obtain⟨q1,q2⟩:=s2 x.src (ok.ends x (hl x (List.mem_cons_of_mem _ hx))).1 hne;exact i3 x hx d p hp q1 (nU q2 hb)
theorem LU (v:bv) {a:Bytes} (ha:aL v.pts a=true) {t:Bytes} (ht:aL v.pts t=true):jr v (nz v a) t=if t=a then ([a],0) else ([],0):=by
 rw [nz,Cw _ (by simp) ha ht];split
 ·rfl
 ·unfold jr;rw [List.getD_eq_getElem?_getD,List.getElem?_map];cases v.pts[gZ v.pts t]? <;> rfl
theorem ED (ok:aY v) {a:Bytes} (ha:aL v.pts a=true): ∀n,PW v a (iter (u6 v) n (nz v a))∧
  ∀l s,l.length≤n→wk v a l=some s→(jr v (iter (u6 v) n (nz v a)) (eG a l)).1≠[]∧FT (jr v (iter (u6 v) n (nz v a)) (eG a l)).2 (jr v (iter (u6 v) n (nz v a)) (eG a l)).1 s.1 (a::l)
 | 0=>by
  refine⟨⟨by simp [iter,nz],fun t ht hh=> ?_⟩,fun l s hl h=> ?_⟩
  ·rw [iter,LU v ha ht] at hh ⊢;split
   ·rename_i e;exact⟨[],(0,0),rfl,rfl,rfl,e.symm⟩
   ·rename_i e;rw [if_neg e] at hh;exact absurd rfl hh
  ·obtain rfl:l=[]:=List.length_eq_zero_iff.1 (by omega);obtain rfl:=Option.some.inj h;rw [iter,eG,LU v ha ha,if_pos rfl];exact⟨by simp,yh _ _⟩
 | n+1=>by
  obtain⟨i1,i2⟩:=ED ok ha n;obtain⟨j1,j2,j3⟩:=EC ok v.lks (fun _ h=>h) i1;refine⟨j1,fun l s hl h=> ?_⟩;rcases List.eq_nil_or_concat l with rfl | ⟨l',b,rfl⟩
  ·obtain⟨q1,q2⟩:=i2 [] s (by simp) h;obtain⟨r1,r2⟩:=j2 _ ha q1;exact⟨r1,nU r2 q2⟩
  ·rw [List.concat_eq_append] at h hl ⊢;obtain⟨t,u,h1,h2,rfl⟩:=mY.1 h;obtain⟨x,w,h3,h4,rfl⟩:=fw.1 h2;obtain rfl:=Option.some.inj h4;obtain⟨m,e1,e2⟩:=gF h3;obtain⟨q1,q2⟩:=i2 l' t (by simp at hl;omega) h1;rw [←e1] at q1 q2;have:=j3 x m t.1 (a::l') (by simp) q1 q2;have e:iter (u6 v) (n+1) (nz v a)=v.lks.foldl (jT v) (iter (u6 v) n (nz v a)):=rfl;rw [gJ,←e2,e];simpa using this
theorem yY (ok:aY v) {a b:Bytes} (ha:aL v.pts a=true)(hb:aL v.pts b=true):
  ((jr v (PQ v a) b).1=[]→ ∀l s,wk v a l=some s→eG a l≠b)∧((jr v (PQ v a) b).1≠[]→ ∃l,(jr v (PQ v a) b).1=a::l∧uf v a b l (jr v (PQ v a) b).2):=by
 obtain⟨i1,i2⟩:=ED ok ha v.pts.length;have key: ∀l s,wk v a l=some s→eG a l=b→(jr v (PQ v a) b).1≠[]∧FT (jr v (PQ v a) b).2 (jr v (PQ v a) b).1 s.1 (a::l):=by
  intro l s h he;obtain⟨l',s',q1,q2,q3,_,q5⟩:=nZ ok _ a l s (Nat.le_refl _) h;have hl:=sS ok q1 ha q3;obtain⟨r1,r2⟩:=i2 l' s' (by omega) q1;rw [q2,he] at r1 r2;refine⟨r1,?_⟩;rcases q5 with rfl | ⟨q5,_⟩
  ·rw [q1] at h;obtain rfl:=Option.some.inj h;exact r2
  ·exact nU r2 (.inl q5)
 refine⟨fun hz l s h he=>(key l s h he).1 hz,fun hz=> ?_⟩;obtain⟨l,s,e1,e2,e3,e4⟩:=i1.walk b hb hz;refine⟨l,e1,⟨s,e2,e3⟩,e4,fun l' s' h he=> ?_⟩;have:=(key l' s' h he).2;rw [show (jr v (PQ v a) b).1=a::l from e1] at this;exact this
theorem Na (ok:aY v) {a b:Bytes} {l:List Bytes} {d:Int} (ha:aL v.pts a=true)(hb:aL v.pts b=true)(h:uf v a b l d):jf v a b=some (a::l,d):=by
 obtain⟨r1,r2⟩:=yY ok ha hb;unfold jf;rw [if_pos ⟨ha,hb⟩];split
 ·rename_i hz;obtain⟨s,w1,_⟩:=h.walk;exact absurd h.ends (r1 hz l s w1)
 ·rename_i hz;obtain⟨l',e1,e2⟩:=r2 hz;obtain⟨rfl,e3⟩:=e2.uniq h;rw [←e1,←e3]
theorem M9 (ok:aY v) {a b:Bytes} (h: ∀l s,wk v a l=some s→eG a l≠b):jf v a b=none:=by
 unfold jf;split
 ·rename_i hh;obtain⟨r1,r2⟩:=yY ok hh.1 hh.2;split
  ·rfl
  ·rename_i hz;obtain⟨l,e1,e2⟩:=r2 hz;obtain⟨s,w1,_⟩:=e2.walk;exact absurd e2.ends (h l s w1)
 ·rfl
theorem CX (ok:aY v)(a b:Bytes):(∃l d,jf v a b=some (a::l,d)∧uf v a b l d∧aL v.pts a=true∧aL v.pts b=true)∨(jf v a b=none∧(aL v.pts a=true→aL v.pts b=true→ ¬RP v a b)):=by
 by_cases hh:aL v.pts a=true∧aL v.pts b=true
 ·obtain⟨r1,r2⟩:=yY ok hh.1 hh.2;by_cases hz:(jr v (PQ v a) b).1=[]
  ·right
   refine⟨by unfold jf;rw [if_pos hh,if_pos hz],fun _ _ ⟨l,s,h1,h2⟩=>r1 hz l s h1 h2⟩
  ·left
   obtain⟨l,e1,e2⟩:=r2 hz;refine⟨l,(jr v (PQ v a) b).2,?_,e2,hh⟩;unfold jf;rw [if_pos hh,if_neg hz,←e1]
 ·right
  refine⟨by unfold jf;rw [if_neg hh],fun h1 h2=>absurd ⟨h1,h2⟩ hh⟩
def Q4 (v:bv)(a:Bytes)(r i:Nat):St:=(v.lks.take i).foldl (jT v) (iter (u6 v) r (nz v a))
theorem Ty (v:bv)(a:Bytes):Q4 v a 0 0=nz v a:=rfl
theorem Tx {v:bv} {i:Nat} {x:Lk} (a:Bytes)(r:Nat)(h:v.lks[i]? =some x):Q4 v a r (i+1)=jT v (Q4 v a r i) x:=by
 rw [Q4,zM,h,Option.toList_some,List.foldl_append];rfl
theorem PO (v:bv)(a:Bytes)(r:Nat):Q4 v a r v.lks.length=Q4 v a (r+1) 0:=by
 rw [Q4,List.take_length];rfl
theorem Tv (v:bv)(a:Bytes):Q4 v a v.pts.length 0=PQ v a:=rfl
theorem Tw (ok:aY v) {a:Bytes} (ha:aL v.pts a=true)(r i:Nat):PW v a (Q4 v a r i):=
 (EC ok _ (fun x hx=>List.mem_of_mem_take hx) (ED ok ha r).1).1
theorem Kc {st:St} {n:Nat} (h: ∀y∈st,y.1.length≤n)(t:Bytes):(jr v st t).1.length≤n:=by
 unfold jr;rw [List.getD_eq_getElem?_getD]
 cases e:st[gZ v.pts t]? with
 | none=>simp
 | some y=>exact h y (zF e)
theorem Q5 {st:St} {n:Nat} (h: ∀y∈st,y.1.length≤n)(x:Lk): ∀y∈jT v st x,y.1.length≤n+1:=by
 intro y hy;unfold jT at hy;split at hy
 ·exact Nat.le_succ_of_le (h y hy)
 ·split at hy
  ·rcases List.mem_or_eq_of_mem_set hy with hy | rfl
   ·exact Nat.le_succ_of_le (h y hy)
   ·have:=Kc (v:=v) h x.src;simp;omega
  ·exact Nat.le_succ_of_le (h y hy)
theorem Ai: ∀(ls:List Lk) {st:St} {n:Nat},(∀y∈st,y.1.length≤n)→ ∀y∈ls.foldl (jT v) st,y.1.length≤n+ls.length
 | [],st,n,h=>fun y hy=>h y hy
 | x::ls,st,n,h=>fun y hy=>by
  have:=Ai ls (Q5 (v:=v) h x) y hy;simp;omega
theorem PP (hl:v.lks.length≤128)(a:Bytes): ∀r i,i≤v.lks.length→ ∀y∈Q4 v a r i,y.1.length≤1+128*r+i
 | 0,i,hi=>fun y hy=>by
  have h0: ∀y∈nz v a,y.1.length≤1:=fun y hy=>by
   unfold nz at hy;rcases List.mem_or_eq_of_mem_set hy with hy | rfl
   ·obtain⟨_,_,rfl⟩:=List.mem_map.1 hy;simp
   ·simp
  have:=Ai (v:=v) (v.lks.take i) h0 y hy;simp at this ⊢;omega
 | r+1,i,hi=>fun y hy=>by
  have h0:=PP hl a r v.lks.length (Nat.le_refl _);rw [PO] at h0;have:=Ai (v:=v) (v.lks.take i) h0 y hy;simp at this ⊢;omega
theorem Kb {st:St} (hl:st.length=v.pts.length) {t:Bytes} (ht:aL v.pts t=true):st[gZ v.pts t]? =some (jr v st t):=by
 have h:gZ v.pts t<st.length:=by rw [hl];exact sI ht
 unfold jr;rw [List.getD_eq_getElem?_getD,zB h];rfl
def V6 (st:St):List (List (List AV)):=st.map fun y=>y.1.map aO
def MS (st:St):List (List AV):=st.map fun y=>[.int .i64 y.2]
theorem PR (st:St):(MS st).length=st.length:=by simp [MS]
theorem Vp (st:St)(k:Nat)(y:List Bytes×Int):V6 (st.set k y)=(V6 st).set k (y.1.map aO):=by simp [V6,List.map_set]
theorem Vo (st:St)(k:Nat)(y:List Bytes×Int):MS (st.set k y)=(MS st).set k [.int .i64 y.2]:=by simp [MS,List.map_set]
theorem Cx {st:St} {k:Nat} {y:List Bytes×Int} (h:st[k]? =some y):(V6 st)[k]? =some (y.1.map aO):=by rw [V6,List.getElem?_map,h];rfl
theorem Ka {st:St} {k:Nat} {y:List Bytes×Int} (h:st[k]? =some y):(MS st)[k]? =some [.int .i64 y.2]:=by rw [MS,List.getElem?_map,h];rfl
def st0 (n:Nat):St:=List.replicate n ([],0)
theorem Zg (n:Nat):V6 (st0 n)=List.replicate n []:=by simp [V6,st0]
theorem V5 (n:Nat):MS (st0 n)=List.replicate n [.int .i64 0]:=by simp [MS,st0]
theorem Tu (v:bv)(a:Bytes):nz v a=(st0 v.pts.length).set (gZ v.pts a) ([a],0):=by
 rw [nz];congr 1
 exact List.eq_replicate_iff.2 ⟨by simp,fun b hb=>by simp at hb;exact hb.2.symm⟩
end
end Go.Toll
end
section
namespace Go.Toll
open Go Go.Abs
def lastT (p:List Bytes):Bytes:=p.getLast?.getD []
@[simp] theorem kC (p:List Bytes) (x:Bytes):lastT (p++[x])=x:=by simp [lastT]
@[simp] theorem X6 (x:Bytes):lastT [x]=x:=rfl
theorem Hr {p:List Bytes} (h:p≠[]):lastT p∈p:=by
 rcases List.eq_nil_or_concat p with rfl | ⟨q,x,rfl⟩
 ·exact absurd rfl h
 ·rw [List.concat_eq_append,kC];simp
def kS (st:List Bytes×List Bytes)(x:Bytes):List Bytes×List Bytes:=if x∈st.1 then st else (st.1++[x],st.2++[x])
def kT (v:bv)(st:List Bytes×List Bytes)(y:Bytes):List Bytes×List Bytes:=(df v y).foldl kS st
def xg (v:bv)(seen front:List Bytes):List Bytes×List Bytes:=front.foldl (kT v) (seen,[])
def Dj (v:bv)(t:Bytes):Nat→List Bytes→List Bytes→Bool
 | 0,_,_=>false
 | n+1,seen,front=>if t∈front then true else Dj v t n (xg v seen front).1 (xg v seen front).2
def jK (v:bv)(p:List Bytes)(t:Bytes):Bool:=Dj v t (17 - p.length) p [lastT p]
def Rk (v:bv)(p:List Bytes)(a:Bytes)(k:Nat)(x:Bytes):Prop:= ∃w s,wk v a w=some s∧eG a w=x∧(∀z∈w,z∉p)∧w.length=k
section
variable {v : bv}
theorem Ng (xs:List Bytes): ∀st:List Bytes×List Bytes,(∀x,x∈(xs.foldl kS st).1↔x∈st.1∨x∈xs)∧(∀x,x∈(xs.foldl kS st).2↔x∈st.2∨(x∈xs∧x∉st.1)):=by
 induction xs with
 | nil=>intro st;simp
 | cons y xs ih=>
  intro st;obtain⟨i1,i2⟩:=ih (kS st y);rw [List.foldl_cons];by_cases h:y∈st.1
  ·rw [show kS st y=st by rw [kS,if_pos h]] at i1 i2 ⊢;refine⟨fun x=> ?_,fun x=> ?_⟩
   ·rw [i1,List.mem_cons];constructor
    ·rintro (a | a);exact .inl a;exact .inr (.inr a)
    ·rintro (a | rfl | a);exact .inl a;exact .inl h;exact .inr a
   ·rw [i2,List.mem_cons];constructor
    ·rintro (a | ⟨a,b⟩);exact .inl a;exact .inr ⟨.inr a,b⟩
    ·rintro (a | ⟨rfl | a,b⟩);exact .inl a;exact absurd h b;exact .inr ⟨a,b⟩
  ·rw [show kS st y=(st.1++[y],st.2++[y]) by rw [kS,if_neg h]] at i1 i2 ⊢;refine⟨fun x=> ?_,fun x=> ?_⟩
   ·rw [i1,List.mem_cons,List.mem_append,List.mem_singleton,or_assoc]
   ·rw [i2,List.mem_cons,List.mem_append,List.mem_singleton,List.mem_append,List.mem_singleton];constructor
    ·rintro ((a | rfl) | ⟨a,b⟩)
     ·exact .inl a
     ·exact .inr ⟨.inl rfl,h⟩
     ·exact .inr ⟨.inr a,fun c=>b (.inl c)⟩
    ·rintro (a | ⟨rfl | a,b⟩)
     ·exact .inl (.inl a)
     ·exact .inl (.inr rfl)
     ·by_cases e:x=y
      ·exact .inl (.inr e)
      ·exact .inr ⟨a,by rintro (c | c);exact b c;exact e c⟩
theorem KN (v:bv)(ys:List Bytes): ∀st:List Bytes×List Bytes,(∀x∈st.2,x∈st.1)→
  (∀x,x∈(ys.foldl (kT v) st).1↔x∈st.1∨ ∃y∈ys,x∈df v y)∧(∀x,x∈(ys.foldl (kT v) st).2↔x∈st.2∨((∃y∈ys,x∈df v y)∧x∉st.1)):=by
 induction ys with
 | nil=>intro st _;simp
 | cons y ys ih=>
  intro st hst;obtain⟨a1,a2⟩:=Ng (df v y) st;have hst': ∀x∈(kT v st y).2,x∈(kT v st y).1:=fun x hx=>by
   rw [kT,a2] at hx;rw [kT,a1];rcases hx with hx | hx
   ·exact .inl (hst x hx)
   ·exact .inr hx.1
  obtain⟨i1,i2⟩:=ih (kT v st y) hst';rw [List.foldl_cons];refine⟨fun x=> ?_,fun x=> ?_⟩
  ·rw [i1,kT,a1,or_assoc];simp
  ·rw [i2,kT,a1,a2];constructor
   ·rintro ((h | ⟨h,h'⟩) | ⟨⟨z,hz,h⟩,h'⟩)
    ·exact .inl h
    ·exact .inr ⟨⟨y,by simp,h⟩,h'⟩
    ·exact .inr ⟨⟨z,by simp [hz],h⟩,fun c=>h' (.inl c)⟩
   ·rintro (h | ⟨⟨z,hz,h⟩,h'⟩)
    ·exact .inl (.inl h)
    ·by_cases e:x∈df v y
     ·exact .inl (.inr ⟨e,h'⟩)
     ·rcases List.mem_cons.1 hz with rfl | hz
      ·exact absurd h e
      ·exact .inr ⟨⟨z,hz,h⟩,by rintro (c | c);exact h' c;exact e c⟩
theorem Ni (v:bv)(seen front:List Bytes):(∀x,x∈(xg v seen front).1↔x∈seen∨ ∃y∈front,x∈df v y)∧(∀x,x∈(xg v seen front).2↔((∃y∈front,x∈df v y)∧x∉seen)):=by
 obtain⟨h1,h2⟩:=KN v front (seen,[]) (by simp);exact⟨h1,fun x=>by rw [xg,h2];simp⟩
theorem Rk.step (ok:aY v) {p:List Bytes} {a y x:Bytes} {k:Nat} (h:Rk v p a k y)(hx:x∈df v y)(hp:x∉p):Rk v p a (k+1) x:=by
 obtain⟨w,s,h1,rfl,h3,h4⟩:=h;obtain⟨z,hz⟩:=(z8 ok _ _).1 hx;refine⟨w++[x],_,mY.2 ⟨s,(z.min+0,z.max+0),h1,fw.2 ⟨z,(0,0),hz,rfl,rfl⟩,rfl⟩,gJ _ _ _,fun u hu=> ?_,by simp [h4]⟩;rcases List.mem_append.1 hu with hu | hu
 ·exact h3 u hu
 ·rw [List.mem_singleton.1 hu];exact hp
theorem Rk.back (ok:aY v) {p:List Bytes} {a x:Bytes} {k:Nat} (h:Rk v p a (k+1) x): ∃y,Rk v p a k y∧x∈df v y∧x∉p∧(y∈p→k=0∧y=a):=by
 obtain⟨w,s,h1,h2,h3,h4⟩:=h;rcases List.eq_nil_or_concat w with rfl | ⟨w',b,rfl⟩
 ·simp at h4
 ·rw [List.concat_eq_append] at h1 h2 h3 h4;rw [gJ] at h2;subst h2;obtain⟨t,u,e1,e2,_⟩:=mY.1 h1;obtain⟨z,_,e3,_,_⟩:=fw.1 e2;refine⟨eG a w',⟨w',t,e1,rfl,fun z hz=>h3 z (by simp [hz]),by simpa using h4⟩,(z8 ok _ _).2 ⟨z,e3⟩,h3 _ (by simp),fun hy=> ?_⟩
  cases w' with
  | nil=>exact⟨by simp at h4;omega,rfl⟩
  | cons c w'=>exact absurd hy (h3 _ (by have:=qK c w';show eG c w'∈_;rw [List.mem_append];exact .inl this))
theorem Rk.zero {p:List Bytes} {a x:Bytes} (h:Rk v p a 0 x):x=a:=by
 obtain⟨w,s,h1,h2,h3,h4⟩:=h;obtain rfl:=List.length_eq_zero_iff.1 h4;exact h2.symm
theorem Rk.out {p:List Bytes} {a x:Bytes} {k:Nat} (h:Rk v p a k x):x=a∨x∉p:=by
 obtain⟨w,s,h1,h2,h3,h4⟩:=h
 cases w with
 | nil=>exact .inl h2.symm
 | cons b w=>
  right
  rw [←h2];exact h3 _ (qK b w)
theorem GY (ok:aY v)(t:Bytes)(p:List Bytes)(a:Bytes)(ha:a∈p): ∀(n k:Nat) (seen front:List Bytes),(∀x∈front,Rk v p a k x)→(∀x∈p,x∈seen)→(∀x,(∃j,j≤k∧Rk v p a j x)→x∈seen)→
  (∀x∈seen,x∈front∨(∀y∈df v x,y∈seen)∨(x∈p∧x≠a))→(t∈seen→t∈front∨(t∈p∧t≠a))→(∀j,j<k→ ¬Rk v p a j t)→
  (Dj v t n seen front=true↔ ∃j,j<k+n∧Rk v p a j t)
 | 0,k,seen,front,i1,i2,i3,i4,i5,i6=>by
  simp only [Dj,Bool.false_eq_true,false_iff];rintro⟨j,hj,h⟩;exact i6 j (by omega) h
 | n+1,k,seen,front,i1,i2,i3,i4,i5,i6=>by
  rw [Dj];by_cases hf:t∈front
  ·rw [if_pos hf];simp only [true_iff];exact⟨k,by omega,i1 t hf⟩
  ·rw [if_neg hf];obtain⟨l1,l2⟩:=Ni v seen front;have hk: ¬Rk v p a k t:=fun h=>by
    rcases i5 (i3 t ⟨k,by omega,h⟩) with h1 | ⟨h1,h2⟩
    ·exact hf h1
    ·rcases h.out with h3 | h3
     ·exact h2 h3
     ·exact h3 h1
   rw [GY ok t p a ha n (k+1) _ _ ?_ ?_ ?_ ?_ ?_ ?_]
   ·constructor
    ·rintro⟨j,hj,h⟩;exact⟨j,by omega,h⟩
    ·rintro⟨j,hj,h⟩;exact⟨j,by omega,h⟩
   ·intro x hx;obtain⟨⟨y,hy,hxy⟩,hxs⟩:=(l2 x).1 hx;exact (i1 y hy).step ok hxy fun hp=>hxs (i2 x hp)
   ·intro x hx;exact (l1 x).2 (.inl (i2 x hx))
   ·rintro x ⟨j,hj,h⟩;rw [l1];rcases zN k j with hjk | hjk
    ·obtain rfl:j=k+1:=by omega
     obtain⟨y,hy,hxy,hxp,hyp⟩:=h.back ok;have hys:=i3 y ⟨k,by omega,hy⟩;rcases i4 y hys with h1 | h1 | ⟨h1,h2⟩
     ·exact .inr ⟨y,h1,hxy⟩
     ·exact .inl (h1 x hxy)
     ·exact absurd (hyp h1).2 h2
    ·exact .inl (i3 x ⟨j,hjk,h⟩)
   ·intro x hx;rw [l1] at hx;by_cases hm:x∈(xg v seen front).2
    ·exact .inl hm
    ·have hxs:x∈seen:=by
      rcases hx with hx | hx
      ·exact hx
      ·exact Classical.byContradiction fun hc=>hm ((l2 x).2 ⟨hx,hc⟩)
     rcases i4 x hxs with h1 | h1 | h1
     ·exact .inr (.inl fun y hy=>(l1 y).2 (.inr ⟨x,h1,hy⟩))
     ·exact .inr (.inl fun y hy=>(l1 y).2 (.inl (h1 y hy)))
     ·exact .inr (.inr h1)
   ·intro hx;rw [l1] at hx;by_cases hts:t∈seen
    ·rcases i5 hts with h1 | h1
     ·exact absurd h1 hf
     ·exact .inr h1
    ·rcases hx with hx | hx
     ·exact absurd hx hts
     ·exact .inl ((l2 t).2 ⟨hx,hts⟩)
   ·intro j hj h;rcases zN j k with h1 | h1
    ·exact i6 j h1 h
    ·obtain rfl:j=k:=by omega
     exact hk h
theorem Dh (ok:aY v)(t:Bytes) {p:List Bytes} (hp:p≠[]):jK v p t=true↔ ∃k,Rk v p (lastT p) k t∧p.length+k≤16:=by
 rw [jK,GY ok t p (lastT p) (Hr hp) (17 - p.length) 0 p [lastT p]]
 ·constructor
  ·rintro⟨j,hj,h⟩;exact⟨j,h,by omega⟩
  ·rintro⟨j,h,hj⟩;exact⟨j,by omega,h⟩
 ·intro x hx;rw [List.mem_singleton.1 hx];exact⟨[],(0,0),rfl,rfl,by simp,rfl⟩
 ·exact fun x hx=>hx
 ·rintro x ⟨j,hj,h⟩;obtain rfl:j=0:=by omega
  rw [h.zero];exact Hr hp
 ·intro x hx;by_cases e:x=lastT p
  ·exact .inl (by simp [e])
  ·exact .inr (.inr ⟨hx,e⟩)
 ·intro ht;by_cases e:t=lastT p
  ·exact .inl (by simp [e])
  ·exact .inr ⟨ht,e⟩
 ·intro j hj;omega
end
def jd (v:bv)(t:Bytes):Nat→List Bytes→List (List Bytes)→List (List Bytes)
 | 0,path,found=>if lastT path=t then found++[path] else found
 | n+1,path,found=>if lastT path=t then found++[path] else (df v (lastT path)).foldl (fun f x=>if f.length≤1024∧x∉path∧jK v (path++[x]) t=true then jd v t n (path++[x]) f else f) found
def eH (v:bv)(a b:Bytes):List (List Bytes)×Int:=
 if aL v.pts a=true∧aL v.pts b=true then (if 1024<(jd v b 15 [a] []).length then ([],3) else (jd v b 15 [a] [],0)) else ([],16)
structure GA (v:bv)(path:List Bytes)(t:Bytes)(q:List Bytes):Prop where
 ex: ∃w s,q=path++w∧wk v (lastT path) w=some s∧eG (lastT path) w=t∧(∀z∈w,z∉path)∧w.Nodup∧q.length≤16
section
variable {v : bv}
theorem Dv (ok:aY v)(t:Bytes)(n:Nat)(path:List Bytes)(hp:path≠[])
  (ih: ∀x f,x∉path→x∈df v (lastT path)→jK v (path++[x]) t=true→ ∃new,jd v t n (path++[x]) f=f++new∧(∀q∈new,GA v (path++[x]) t q)∧new.Pairwise fun a b=>fq a b<0):
  ∀(xs:List Bytes) (f:List (List Bytes)),oF xs→xs.Nodup→(∀x∈xs,x∈df v (lastT path))→
   ∃new,xs.foldl (fun f x=>if f.length≤1024∧x∉path∧jK v (path++[x]) t=true then jd v t n (path++[x]) f else f) f=f++new∧
    (∀q∈new,∃x∈xs,x∉path∧GA v (path++[x]) t q)∧new.Pairwise fun a b=>fq a b<0
 | [],f,_,_,_=>⟨[],by simp,by simp,.nil⟩
 | x::xs,f,ha,hn,hm=>by
  obtain⟨a1,a2⟩:=List.pairwise_cons.1 ha;obtain⟨n1,n2⟩:=List.nodup_cons.1 hn;rw [List.foldl_cons];by_cases hc:f.length≤1024∧x∉path∧jK v (path++[x]) t=true
  ·rw [if_pos hc];obtain⟨new,e1,e2,e3⟩:=ih x f hc.2.1 (hm x List.mem_cons_self) hc.2.2;obtain⟨new',i1,i2,i3⟩:=Dv ok t n path hp ih xs (jd v t n (path++[x]) f) a2 n2 fun y hy=>hm y (List.mem_cons_of_mem _ hy);refine⟨new++new',by rw [i1,e1,zK],fun q hq=> ?_,List.pairwise_append.2 ⟨e3,i3,fun q hq r hr=> ?_⟩⟩
   ·rcases List.mem_append.1 hq with hq | hq
    ·exact⟨x,List.mem_cons_self,hc.2.1,e2 q hq⟩
    ·obtain⟨y,hy,h⟩:=i2 q hq;exact⟨y,List.mem_cons_of_mem _ hy,h⟩
   ·obtain⟨w,s,rfl,_⟩:=(e2 q hq).ex;obtain⟨y,hy,_,hY⟩:=i2 r hr;obtain⟨w',s',rfl,_⟩:=hY.ex;rw [zK,zK,Tj];show fq (x::w) (y::w')<0;have hle:mO x y≤0:=(O3 x y).2 (of_decide_eq_true (a1 y hy));have hne:mO x y≠0:=fun e=>n1 (jy.1 e▸hy);rw [fq,if_neg hne];omega
  ·rw [if_neg hc];obtain⟨new',i1,i2,i3⟩:=Dv ok t n path hp ih xs f a2 n2 fun y hy=>hm y (List.mem_cons_of_mem _ hy);exact⟨new',i1,fun q hq=>by obtain⟨y,hy,h⟩:=i2 q hq;exact⟨y,List.mem_cons_of_mem _ hy,h⟩,i3⟩
theorem GA.cons (ok:aY v) {path:List Bytes} {t x:Bytes} {q:List Bytes} (hx:x∈df v (lastT path))(hp:x∉path)(h:GA v (path++[x]) t q):GA v path t q:=by
 obtain⟨w,s,rfl,h1,h2,h3,h4,h5⟩:=h.ex;rw [kC] at h1 h2;obtain⟨z,hz⟩:=(z8 ok _ _).1 hx;refine⟨x::w,_,by simp,fw.2 ⟨z,s,hz,h1,rfl⟩,h2,fun u hu=> ?_,List.nodup_cons.2 ⟨fun hm=> ?_,h4⟩,h5⟩
 ·rcases List.mem_cons.1 hu with rfl | hu
  ·exact hp
  ·exact fun hc=>h3 u hu (by simp [hc])
 ·exact h3 x hm (by simp)
theorem G9 (ok:aY v)(t:Bytes): ∀(n:Nat) (path:List Bytes) (f:List (List Bytes)),path≠[]→path.length+n=16→
  ∃new,jd v t n path f=f++new∧(∀q∈new,GA v path t q)∧new.Pairwise fun a b=>fq a b<0
 | 0,path,f,hp,hl=>by
  rw [jd];split
  ·rename_i e;exact⟨[path],rfl,fun q hq=>⟨[],(0,0),by rw [List.mem_singleton.1 hq];simp,rfl,e,by simp,by simp,by rw [List.mem_singleton.1 hq];omega⟩,List.pairwise_singleton _ _⟩
  ·exact⟨[],by simp,by simp,.nil⟩
 | n+1,path,f,hp,hl=>by
  rw [jd];split
  ·rename_i e;exact⟨[path],rfl,fun q hq=>⟨[],(0,0),by rw [List.mem_singleton.1 hq];simp,rfl,e,by simp,by simp,by rw [List.mem_singleton.1 hq];omega⟩,List.pairwise_singleton _ _⟩
  ·obtain⟨new,e1,e2,e3⟩:=Dv ok t n path hp (fun x f hx hm hc=>G9 ok t n (path++[x]) f (by simp) (by simp;omega)) _ f (H7 v _) (ok.nextnd _) fun x hx=>hx;refine⟨new,e1,fun q hq=> ?_,e3⟩;obtain⟨x,hx,hxp,h⟩:=e2 q hq;exact h.cons ok hx hxp
theorem uX (ok:aY v)(a b:Bytes):(eH v a b).1.length≤1024∧((eH v a b).1.Pairwise fun p q=>fq p q<0)∧
  ∀q∈(eH v a b).1,∃l s,q=a::l∧wk v a l=some s∧eG a l=b∧q.Nodup∧q.length≤16∧aL v.pts a=true∧aL v.pts b=true:=by
 obtain⟨new,e1,e2,e3⟩:=G9 ok b 15 [a] [] (by simp) rfl;unfold eH;split
 ·rename_i hh;split
  ·simp
  ·rename_i hl;refine⟨by show (jd v b 15 [a] []).length≤1024;omega,by show (jd v b 15 [a] []).Pairwise _;rw [e1];exact e3,fun q hq=> ?_⟩;have hq:q∈jd v b 15 [a] []:=hq;rw [e1] at hq;obtain⟨w,s,rfl,h1,h2,h3,h4,h5⟩:=(e2 q hq).ex;exact⟨w,s,rfl,h1,h2,List.nodup_cons.2 ⟨fun hm=>h3 a hm (by simp),h4⟩,h5,hh⟩
 ·simp
def FY (v:bv)(t:Bytes)(n:Nat)(path:List Bytes)(f:List (List Bytes))(x:Bytes):List (List Bytes):=
 if f.length≤1024∧x∉path∧jK v (path++[x]) t=true then (match n with | 0=>f | n+1=>jd v t n (path++[x]) f) else f
def mQ (v:bv)(t:Bytes)(n:Nat)(path:List Bytes)(f:List (List Bytes))(k:Nat):List (List Bytes):=((df v (lastT path)).take k).foldl (FY v t n path) f
theorem qO {v:bv} {t:Bytes} {n:Nat} {path:List Bytes} {f:List (List Bytes)} {x:Bytes} (h: ¬(f.length≤1024∧x∉path∧jK v (path++[x]) t=true)):FY v t n path f x=f:=by
 unfold FY;rw [if_neg h]
theorem KS {v:bv} {t:Bytes} {n:Nat} {path:List Bytes} {f:List (List Bytes)} {x:Bytes} (h:f.length≤1024∧x∉path∧jK v (path++[x]) t=true):FY v t (n+1) path f x=jd v t n (path++[x]) f:=by
 unfold FY;rw [if_pos h]
theorem G7 (v:bv)(t:Bytes)(n:Nat)(path:List Bytes)(f:List (List Bytes)):mQ v t n path f 0=f:=rfl
theorem vL {v:bv} {t:Bytes} {n:Nat} {path:List Bytes} {f:List (List Bytes)} {k:Nat} {x:Bytes} (h:(df v (lastT path))[k]? =some x):mQ v t n path f (k+1)=FY v t n path (mQ v t n path f k) x:=by
 rw [mQ,zM,h,Option.toList_some,List.foldl_append];rfl
theorem KR {v:bv} {t:Bytes} {n:Nat} {path:List Bytes} {f:List (List Bytes)} (h:lastT path≠t):mQ v t n path f (df v (lastT path)).length=jd v t n path f:=by
 rw [mQ,List.take_length]
 cases n with
 | zero=>
  rw [jd,if_neg h];generalize df v (lastT path)=l
  induction l with
  | nil=>rfl
  | cons x l ih=>
   rw [List.foldl_cons];have:FY v t 0 path f x=f:=by unfold FY;split <;> rfl
   rw [this,ih]
 | succ n=>rw [jd,if_neg h];rfl
theorem G8 {v:bv} {t:Bytes} {n:Nat} {path:List Bytes} {f:List (List Bytes)} (h:lastT path=t):jd v t n path f=f++[path]:=by
 cases n <;> rw [jd,if_pos h]
theorem Pf (v:bv)(t:Bytes): ∀(n:Nat) (path:List Bytes) (f:List (List Bytes)),f.length≤1024→(jd v t n path f).length≤1025
 | 0,path,f,h=>by
  rw [jd];split
  ·simp;omega
  ·omega
 | n+1,path,f,h=>by
  rw [jd];split
  ·simp;omega
  ·have: ∀(l:List Bytes) (f:List (List Bytes)),f.length≤1025→(l.foldl (fun f x=>if f.length≤1024∧x∉path∧jK v (path++[x]) t=true then jd v t n (path++[x]) f else f) f).length≤1025:=by
    intro l
    induction l with
    | nil=>intro f h;exact h
    | cons x l ih=>
     intro f h;rw [List.foldl_cons];refine ih _ ?_;split
     ·rename_i hc;exact Pf v t n _ f hc.1
     ·exact h
   exact this _ f (by omega)
theorem UT (v:bv)(t:Bytes)(n:Nat)(path:List Bytes)(f:List (List Bytes))(x:Bytes)(h:f.length≤1025):(FY v t n path f x).length≤1025:=by
 unfold FY;split
 ·rename_i hc
  cases n with
  | zero=>exact h
  | succ n=>exact Pf v t n _ f hc.1
 ·exact h
theorem Cj (v:bv)(t:Bytes)(n:Nat)(path:List Bytes)(f:List (List Bytes))(h:f.length≤1025): ∀k,(mQ v t n path f k).length≤1025
 | 0=>h
 | k+1=>by
  cases e:(df v (lastT path))[k]? with
  | none=>
   have:mQ v t n path f (k+1)=mQ v t n path f k:=by rw [mQ,mQ,zM,e];simp
   rw [this];exact Cj v t n path f h k
  | some x=>rw [vL e];exact UT v t n path _ x (Cj v t n path f h k)
end
end Go.Toll
end
section
namespace Go.Toll
open Go Go.Abs
structure kF where
 to:Int
 min:Int
 max:Int
 deriving DecidableEq
def bV (r:kF):List AV:=[.int .i64 r.to,.int .i64 r.min,.int .i64 r.max]
@[simp] theorem VJ (r:kF):(bV r).length=3:=rfl
@[simp] theorem Dn (r:kF):bV r=[.int .i64 r.to,.int .i64 r.min,.int .i64 r.max]:=rfl
def jg (n:Nat):AV:= .int .i64 (n:Int)
def bz (v:bv)(s:Bytes):Nat:=(bM v).idxOf s
def bD (v:bv)(x:Lk):kF:=⟨bz v x.dst,x.min,x.max⟩
def rowOf (v:bv)(s:Bytes):List kF:=(lD v s).map (bD v)
def wU (v:bv):List (List kF):=(bM v).map (rowOf v)
def wE:Nat→List Bytes→List (Bytes×Nat)
 | _,[]=>[]
 | i,s::l=>(s,i)::wE (i+1) l
def Ko (v:bv):List (Bytes×Nat):=wE 0 (bM v)
def bf (v:bv)(m:Nat):List AV:=[.ro ((bM v).map aO),.map m,.ro ((wU v).map fun r=>[.ro (r.map bV)])]
theorem Ta: ∀(l:List Bytes) (i:Nat),(wE i l).length=l.length
 | [],_=>rfl
 | s::l,i=>by rw [wE,List.length_cons,Ta l (i+1)];rfl
theorem He (t:Bytes): ∀(l:List Bytes) (i:Nat),iW (wE i l) t=if t∈l then some (i+l.idxOf t) else none
 | [],i=>rfl
 | s::l,i=>by
  have ih:=He t l (i+1);by_cases h:t=s
  ·subst h;simp [wE,iW]
  ·have:iW (wE i (s::l)) t=iW (wE (i+1) l) t:=by simp [wE,iW,h]
   rw [this,ih];by_cases hm:t∈l
   ·rw [if_pos hm,if_pos (List.mem_cons_of_mem _ hm),List.idxOf_cons];rw [show (s==t)=false by simp;exact fun e=>h e.symm];simp;omega
   ·rw [if_neg hm,if_neg (by rw [List.mem_cons];rintro (e | e);exact h e;exact hm e)]
theorem LQ {α:Type}: ∀(m:List (Bytes×α)) (t:Bytes) (x:α),t∉m.map (·.1)→sJ m t x=m++[(t,x)]
 | [],t,x,_=>rfl
 | p::m,t,x,h=>by
  rw [List.map_cons,List.mem_cons,not_or] at h;rw [sJ,if_neg (by simpa using h.1),LQ m t x h.2];rfl
theorem H8: ∀(l:List Bytes) (i:Nat),(wE i l).map (·.1)=l
 | [],_=>rfl
 | s::l,i=>by rw [wE,List.map_cons,H8 l (i+1)]
theorem Ia (s:Bytes): ∀(l:List Bytes) (i:Nat),wE i (l++[s])=wE i l++[(s,i+l.length)]
 | [],i=>rfl
 | t::l,i=>by
  rw [List.cons_append,wE,Ia s l (i+1),wE];simp;omega
section
variable {v : bv}
theorem DR (v:bv)(t:Bytes):iW (Ko v) t=if aL v.pts t=true then some (bz v t) else none:=by
 rw [Ko,He,bz];by_cases h:t∈bM v
 ·rw [if_pos h,if_pos ((uZ v t).1 h),Nat.zero_add]
 ·rw [if_neg h,if_neg (fun h'=>h ((uZ v t).2 h'))]
theorem d9 {t:Bytes} (h:aL v.pts t=true):bz v t<(bM v).length:=List.idxOf_lt_length_iff.2 ((uZ v t).2 h)
theorem gW {t:Bytes} (h:aL v.pts t=true):(bM v)[bz v t]? =some t:=by
 have:=d9 h;rw [zB this];exact congrArg some (List.getElem_idxOf this)
theorem PN (ok:aY v) {i:Nat} {s:Bytes} (h:(bM v)[i]? =some s):aL v.pts s=true∧bz v s=i:=by
 have hp:=(uZ v s).1 (zF h);exact⟨hp,vR ok.nodup (gW hp) h⟩
theorem iN (ok:aY v) {s t:Bytes} (hs:aL v.pts s=true)(ht:aL v.pts t=true)(h:bz v s=bz v t):s=t:=by
 have h1:=gW hs;rw [h,gW ht] at h1;exact (Option.some.inj h1).symm
theorem Vh (ok:aY v) {s t:Bytes} (hs:aL v.pts s=true)(ht:aL v.pts t=true):bz v s≤bz v t↔s≤t:=by
 have key: ∀ {s t:Bytes},aL v.pts s=true→aL v.pts t=true→bz v s≤bz v t→s≤t:=by
  intro s t hs ht h;rcases Nat.lt_or_eq_of_le h with h | h
  ·have h1:=gW hs;have h2:=gW ht;obtain⟨b1,c1⟩:=zA.1 h1;obtain⟨b2,c2⟩:=zA.1 h2;have:=List.pairwise_iff_getElem.1 (Tt v) _ _ b1 b2 h;rw [c1,c2] at this;exact of_decide_eq_true this
  ·rw [iN ok hs ht h];exact List.le_refl t
 refine⟨key hs ht,fun h=> ?_⟩;rcases Nat.le_total (bz v s) (bz v t) with h1 | h1
 ·exact h1
 ·have:=List.le_antisymm h (key ht hs h1);subst this;exact Nat.le_refl _
theorem rG (v:bv):(wU v).length=(bM v).length:=by simp [wU]
theorem nY {i:Nat} {s:Bytes} (h:(bM v)[i]? =some s):(wU v)[i]? =some (rowOf v s):=by rw [wU,List.getElem?_map,h];rfl
theorem rF (v:bv)(s:Bytes):(rowOf v s).length≤v.lks.length:=by rw [rowOf,List.length_map];exact Ab v s
theorem Ak {v:bv} {s:Bytes} {k:Nat} {r:kF} (h:(rowOf v s)[k]? =some r): ∃x,(lD v s)[k]? =some x∧r=bD v x∧x∈v.lks∧x.src=s:=by
 rw [rowOf,List.getElem?_map,Option.map_eq_some_iff] at h;obtain⟨x,h1,h2⟩:=h;exact⟨x,h1,h2.symm,(jA v s x).1 (zF h1)⟩
theorem Ol (ok:aY v)(s:Bytes):((v.lks.filter fun x=>decide (x.src=s)).map (bD v)).mergeSort (fun a b=>decide (a.to≤b.to))=rowOf v s:=by
 rw [rowOf,lD,←List.map_mergeSort (r:=fun x y:Lk=>decide (x.dst≤y.dst)) (s:=fun a b:kF=>decide (a.to≤b.to)) (f:=bD v)];intro a ha b hb;have h1:=(ok.ends a (List.mem_filter.1 ha).1).2.1;have h2:=(ok.ends b (List.mem_filter.1 hb).1).2.1;have:=Vh ok h1 h2;exact decide_eq_decide.2 (this.symm.trans (by simp [bD]))
theorem Re (ok:aY v)(s:Bytes):(((v.lks.filter fun x=>decide (x.src=s)).map (bD v)).map (·.to)).Nodup:=by
 rw [List.map_map];have h:=ok.dstnd s;have h2:((v.lks.filter fun x=>decide (x.src=s)).map (·.dst)).Nodup:=(((List.mergeSort_perm _ _).map _).nodup_iff).1 h;refine List.pairwise_map.2 ?_;have h3:=List.pairwise_map.1 h2;refine List.Pairwise.imp_of_mem ?_ h3;intro a b ha hb hne e;have h1:=(ok.ends a (List.mem_filter.1 ha).1).2.1;have h2:=(ok.ends b (List.mem_filter.1 hb).1).2.1;simp only [Function.comp,bD] at e;exact hne (iN ok h1 h2 (by omega))
def upTo {α:Type} (l:List α)(i:Nat):List α:=l.take i
theorem IV {α:Type} {l:List α} {i:Nat} {x:α} (h:l[i]? =some x):upTo l (i+1)=upTo l i++[x]:=by rw [upTo,zM,h];rfl
theorem MI {α:Type} {l:List α} {i:Nat} (h:l.length≤i):upTo l i=l:=zG h
theorem ET {v:bv} {s:Bytes} (ok:aY v) {k:Nat} {r:kF} (h:(rowOf v s)[k]? =some r): ∃x,(df v s)[k]? =some x.dst∧r=bD v x∧x∈v.lks∧x.src=s∧(bM v)[bz v x.dst]? =some x.dst∧aL v.pts x.dst=true:=by
 obtain⟨x,h1,h2,h3,h4⟩:=Ak h;have h5:=(ok.ends x h3).2.1;exact⟨x,by rw [df,List.getElem?_map,h1];rfl,h2,h3,h4,gW h5,h5⟩
theorem wT (v:bv)(s:Bytes):(rowOf v s).length=(df v s).length:=by simp [rowOf,df]
theorem Vm (ok:aY v) {s t:Bytes} (ht:aL v.pts t=true):(lv (fun r:kF=>decide (r.to=bz v t)) (rowOf v s)= -1∧lkOf v s t=none)∨
  ∃(k:Nat) (x:Lk),lv (fun r:kF=>decide (r.to=bz v t)) (rowOf v s)=(k:Int)∧(rowOf v s)[k]? =some (bD v x)∧lkOf v s t=some x:=by
 rcases nV (fun r:kF=>decide (r.to=bz v t)) (rowOf v s) with⟨h1,h2⟩ | ⟨k,r,h1,h2,h3⟩
 ·left
  refine⟨h1,?_⟩
  cases e:lkOf v s t with
  | none=>rfl
  | some x=>
   obtain⟨m,e1,e2⟩:=gF e;have:=List.find?_eq_none.1 h2 (bD v x) (List.mem_map_of_mem ((jA v s x).2 ⟨m,e1⟩));simp [bD,e2] at this
 ·right
  obtain⟨x,x1,rfl,x3,x4,x5,x6⟩:=ET ok h2;have hp:=List.find?_some h3;have:bz v x.dst=bz v t:=by have:=of_decide_eq_true hp;simp only [bD] at this;omega
  have e:=iN ok x6 ht this;refine⟨k,x,h1,h2,?_⟩;rw [←x4,←e];exact ok.lkOf x3
def Gl (n:bv)(i:Nat):List Bytes:=(n.pts.take i).map (·.name)
theorem QZ {n:bv} {i:Nat} {p:Pt} (h:n.pts[i]? =some p):Gl n (i+1)=Gl n i++[p.name]:=by rw [Gl,zM,h];simp [Gl]
theorem Tk (n:bv):Gl n n.pts.length=n.pts.map (·.name):=by rw [Gl,List.take_length]
theorem Tm (n:bv)(i:Nat):(Gl n i).length≤i:=by simp [Gl];omega
def Gi (v:bv)(i:Nat):List (AV×AV):=sM jg (wE 0 ((bM v).take i))
theorem S9 (v:bv):Gi v (bM v).length=sM jg (Ko v):=by rw [Gi,List.take_length];rfl
theorem QV (ok:aY v) {i:Nat} {s:Bytes} (h:(bM v)[i]? =some s):w9 (Gi v i) (.str s) (.int .i64 i)=Gi v (i+1):=by
 have hlt:=aK h;have hnot:s∉(bM v).take i:=fun hm=>by
  obtain⟨j,hj⟩:=List.getElem?_of_mem hm;have hj2:=aK hj;rw [List.length_take] at hj2;rw [List.getElem?_take_of_lt (by omega)] at hj;have:=vR ok.nodup hj h;omega
 rw [Gi,Gi,zM,h,show AV.int .i64 (i:Int)=jg i from rfl,yf,LQ _ _ _ (by rw [H8];exact hnot)];rw [Option.toList_some,Ia,List.length_take,Nat.min_eq_left (by omega),Nat.zero_add]
def gQ (v:bv)(ls:List Lk):List (List kF):=(bM v).map fun s=>(ls.filter fun x=>decide (x.src=s)).map (bD v)
theorem LW (v:bv):gQ v []=List.replicate (bM v).length []:=by
 exact List.eq_replicate_iff.2 ⟨by simp [gQ],fun b hb=>by simp [gQ] at hb;exact hb.2⟩
theorem JS (ok:aY v)(ls:List Lk) {x:Lk} (hx:aL v.pts x.src=true):gQ v (ls++[x])=(gQ v ls).set (bz v x.src) ((((ls.filter fun y=>decide (y.src=x.src)).map (bD v)))++[bD v x]):=by
 refine List.ext_getElem? fun i=> ?_;rw [List.getElem?_set];by_cases e:bz v x.src=i
 ·subst e;rw [if_pos rfl,if_pos (by rw [gQ,List.length_map];exact d9 hx),gQ,List.getElem?_map,gW hx];simp
 ·rw [if_neg e,gQ,gQ,List.getElem?_map,List.getElem?_map]
  cases h:(bM v)[i]? with
  | none=>rfl
  | some s=>
   simp only [Option.map_some,List.filter_append,List.map_append];have: ¬x.src=s:=by rintro rfl;exact e (PN ok h).2
   simp [this]
theorem u7 {ls:List Lk} {s:Bytes} {i:Nat} (h:(bM v)[i]? =some s):(gQ v ls)[i]? =some ((ls.filter fun x=>decide (x.src=s)).map (bD v)):=by rw [gQ,List.getElem?_map,h];rfl
def BS (v:bv)(j:Nat):List (List (List AV)):=(gQ v (v.lks.take j)).map fun r=>r.map bV
def TB (v:bv)(j:Nat)(s:Bytes):List (List AV):=(((v.lks.take j).filter fun x=>decide (x.src=s)).map (bD v)).map bV
theorem Ip (v:bv):BS v 0=List.replicate (bM v).length []:=by rw [BS,List.take_zero,LW,List.map_replicate];rfl
theorem TE (v:bv):BS v v.lks.length=(gQ v v.lks).map fun r=>r.map bV:=by rw [BS,List.take_length]
theorem TF {j:Nat} {s:Bytes} (h:aL v.pts s=true):(BS v j)[bz v s]? =some (TB v j s):=by rw [BS,List.getElem?_map,u7 (gW h)];rfl
theorem Im (ok:aY v) {j:Nat} {x:Lk} (h:v.lks[j]? =some x):BS v (j+1)=(BS v j).set (bz v x.src) (TB v j x.src++[bV (bD v x)]):=by
 rw [BS,zM,h,Option.toList_some,JS ok _ (ok.ends x (zF h)).1,List.map_set,List.map_append];rfl
theorem TD (v:bv)(j:Nat)(s:Bytes):(TB v j s).length≤v.lks.length:=by
 rw [TB,List.length_map,List.length_map];exact Nat.le_trans (List.length_filter_le _ _) (by simp;omega)
def kX (v:bv)(i:Nat):List (List kF):=(wU v).take i++(gQ v v.lks).drop i
theorem JG (v:bv):kX v 0=gQ v v.lks:=by simp [kX]
theorem LC (v:bv):kX v (bM v).length=wU v:=by
 rw [kX,zG (by rw [rG];exact Nat.le_refl _),List.drop_of_length_le (by rw [gQ,List.length_map];exact Nat.le_refl _),List.append_nil]
theorem LD {s:Bytes} {i:Nat} (h:(bM v)[i]? =some s):(kX v i)[i]? =some ((v.lks.filter fun x=>decide (x.src=s)).map (bD v)):=by
 have hl:=(zA.1 h).1;rw [kX,zD (by rw [List.length_take,rG];omega),List.length_take,rG,Nat.min_eq_left (by omega),Nat.sub_self,List.getElem?_drop,Nat.add_zero,u7 h]
def BO (v:bv)(i:Nat):List (List (List AV)):=(kX v i).map fun r=>r.map bV
def Vj (v:bv)(s:Bytes):List kF:=(v.lks.filter fun x=>decide (x.src=s)).map (bD v)
theorem QP (v:bv):BO v 0=BS v v.lks.length:=by rw [BO,JG,TE]
theorem SI (v:bv):BO v (bM v).length=(wU v).map fun r=>r.map bV:=by rw [BO,LC]
theorem SK {s:Bytes} {i:Nat} (h:(bM v)[i]? =some s):(BO v i)[i]? =some ((Vj v s).map bV):=by rw [BO,List.getElem?_map,LD h];rfl
theorem LF {s:Bytes} {i:Nat} (h:(bM v)[i]? =some s):(kX v i).set i (rowOf v s)=kX v (i+1):=by
 have hl:=(zA.1 h).1;have hr:=u7 (ls:=v.lks) h;rw [kX,kX,List.set_append,if_neg (by rw [List.length_take,rG];omega),List.length_take,rG,Nat.min_eq_left (by omega),Nat.sub_self];obtain⟨hrl,hre⟩:=zA.1 hr;rw [List.drop_eq_getElem_cons hrl,List.set_cons_zero,zM,nY h];simp
theorem QO {s:Bytes} {i:Nat} (h:(bM v)[i]? =some s):(BO v i).set i ((rowOf v s).map bV)=BO v (i+1):=by
 rw [BO,BO,←LF h,List.map_set]
end
end Go.Toll
end
section
namespace Go.Toll
open Go Go.Abs
section
variable {v : bv} {a : Bytes} {sn : List Bool} {Q : List Bytes}
theorem PI (ok:aY v) {u d:Bytes} (h:d∈df v u):aL v.pts d=true:=by
 obtain⟨x,hx,_,rfl⟩:=(lM v u d).1 h;exact (ok.ends x hx).2.1
end
end Go.Toll
end
section
namespace Go.Toll
open Go Go.Abs
structure TC where
 time:Int
 pts:Int
 deriving DecidableEq
def FO:TC:=⟨0,-1⟩
def rR (c:TC):List AV:=[.int .i64 c.time,.int .i64 c.pts]
@[simp] theorem Zv (c:TC):rR c=[.int .i64 c.time,.int .i64 c.pts]:=rfl
def wI (c d:TC):Bool:=decide (c.time<d.time) || (decide (c.time=d.time) && decide (c.pts<d.pts))
def eO (v:bv)(L:List TC)(s:Bytes):TC:=L.getD (bz v s) FO
def jR (c:TC)(x:Lk):TC:=⟨c.time+x.min,c.pts+1⟩
def qo (L:List TC):Nat:=L.countP fun c=>decide (0≤c.pts)
def wC (c:TC):Nat:=if c.pts<0 then 137438953472*274877906944+274877906944 else c.time.toNat* 274877906944+c.pts.toNat
def Gh (L:List TC):Nat:=(L.map wC).sum
structure kM (v:bv)(b:Bytes)(L:List TC):Prop where
 len:L.length=(bM v).length
 root:eO v L b=⟨0,0⟩
 walk: ∀s,aL v.pts s=true→0≤(eO v L s).pts→ ∃l t,wk v s l=some t∧t.1=(eO v L s).time∧(l.length:Int)=(eO v L s).pts∧eG s l=b
 bnd: ∀s,aL v.pts s=true→0≤(eO v L s).pts→(eO v L s).time≤2147483648*(qo L:Int)
def Ql (v:bv)(L:List TC)(x:Lk):Prop:=(eO v L x.dst).pts<0∨(0≤(eO v L x.src).pts∧wI (jR (eO v L x.dst) x) (eO v L x.src)=false)
section
variable {v : bv} {b : Bytes} {L : List TC}
theorem vZ {s:Bytes} (hl:L.length=(bM v).length)(hs:aL v.pts s=true):L[bz v s]? =some (eO v L s):=by
 have h:bz v s<L.length:=by rw [hl];exact d9 hs
 rw [eO,List.getD_eq_getElem?_getD,zB h];rfl
theorem wm (ok:aY v) {s t:Bytes} (hl:L.length=(bM v).length)(hs:aL v.pts s=true)(ht:aL v.pts t=true)(c:TC):eO v (L.set (bz v s) c) t=if t=s then c else eO v L t:=by
 rw [eO,eO,List.getD_eq_getElem?_getD,List.getD_eq_getElem?_getD];by_cases e:t=s
 ·subst e;rw [zI (by rw [hl];exact d9 ht),if_pos rfl];rfl
 ·rw [zJ (fun h=>e (iN ok hs ht h).symm),if_neg e]
theorem Di {c d:TC}: ∀ {L:List TC} {i:Nat},L[i]? =some d→0≤c.pts→qo (L.set i c)=qo L+if d.pts<0 then 1 else 0
 | [],i,h,_=>by simp at h
 | e::L,0,h,hc=>by
  simp at h;subst h
  simp only [qo,List.set_cons_zero,List.countP_cons];by_cases h:e.pts<0
  ·have: ¬0≤e.pts:=by omega
   simp [hc,h,this]
  ·have:0≤e.pts:=by omega
   simp [hc,h,this]
 | e::L,i+1,h,hc=>by
  have:=Di (L:=L) (i:=i) (d:=d) (c:=c) (by simpa using h) hc;simp only [qo,List.set_cons_succ,List.countP_cons] at this ⊢;omega
theorem IA (L:List TC):qo L≤L.length:=List.countP_le_length
theorem PH {c d:TC}: ∀ {L:List TC} {i:Nat},L[i]? =some d→wC c<wC d→Gh (L.set i c)<Gh L
 | [],i,h,_=>by simp at h
 | e::L,0,h,hc=>by
  simp at h;subst h
  simp only [Gh,List.set_cons_zero,List.map_cons,List.sum_cons];omega
 | e::L,i+1,h,hc=>by
  have:=PH (L:=L) (i:=i) (by simpa using h) hc;simp only [Gh,List.set_cons_succ,List.map_cons,List.sum_cons] at this ⊢;omega
theorem kM.rng (ok:aY v)(c:kM v b L) {s:Bytes} (hs:aL v.pts s=true)(h:0≤(eO v L s).pts):(eO v L s).pts≤(eO v L s).time∧(eO v L s).time≤137438953472:=by
 obtain⟨l,t,h1,h2,h3,_⟩:=c.walk s hs h;have h4:=vF ok h1;have h5:=c.bnd s hs h;have h6:=IA L;have h7:=c.len;have h8:=mF v;have h9:=ok.plen;omega
theorem kM.start (ok:aY v)(hb:aL v.pts b=true):kM v b ((List.replicate (bM v).length FO).set (bz v b) ⟨0,0⟩):=by
 have hl:(List.replicate (bM v).length FO).length=(bM v).length:=by simp
 have h0: ∀t,eO v (List.replicate (bM v).length FO) t=FO:=fun t=>by
  rw [eO,List.getD_eq_getElem?_getD,List.getElem?_replicate];split <;> rfl
 have hr:eO v ((List.replicate (bM v).length FO).set (bz v b) ⟨0,0⟩) b=⟨0,0⟩:=by rw [wm ok hl hb hb,if_pos rfl]
 refine⟨by simp,hr,fun s hs h=> ?_,fun s hs h=> ?_⟩
 ·rw [wm ok hl hb hs,h0] at h ⊢;split at h
  ·rename_i e;rw [if_pos e];exact⟨[],(0,0),rfl,rfl,rfl,e⟩
  ·simp [FO] at h
 ·rw [wm ok hl hb hs,h0] at h ⊢;split at h
  ·rename_i e;rw [if_pos e];show (0:Int)≤_;omega
  ·simp [FO] at h
theorem xe {c d:TC} (h:wI c d=true):c.time<d.time∨(c.time=d.time∧c.pts<d.pts):=by simpa [wI] using h
theorem KI {c d:TC} (h:wI c d=false):d.time<c.time∨(c.time=d.time∧d.pts≤c.pts):=by
 simp [wI] at h;obtain⟨h1,h2⟩:=h;by_cases e:c.time=d.time
 ·exact .inr ⟨e,h2 e⟩
 ·exact .inl (by omega)
theorem kM.step (ok:aY v)(c:kM v b L) {x:Lk} (hx:x∈v.lks)(hd:0≤(eO v L x.dst).pts)(hb:aL v.pts b=true)(hi:(eO v L x.src).pts<0∨wI (jR (eO v L x.dst) x) (eO v L x.src)=true):
  kM v b (L.set (bz v x.src) (jR (eO v L x.dst) x))∧Gh (L.set (bz v x.src) (jR (eO v L x.dst) x))<Gh L:=by
 obtain⟨p1,p2,p3⟩:=ok.ends x hx;obtain⟨r1,r2,r3⟩:=ok.rng x hx;obtain⟨q1,q2⟩:=c.rng ok p2 hd;have hbd:=c.bnd x.dst p2 hd;have hg:=vZ c.len p1;have hc:=Di (c:=jR (eO v L x.dst) x) hg (by simp only [jR];omega);have hmono:qo L≤qo (L.set (bz v x.src) (jR (eO v L x.dst) x)):=by rw [hc];omega
 have hcl:qo (L.set (bz v x.src) (jR (eO v L x.dst) x))≤64:=by
  have:=IA (L.set (bz v x.src) (jR (eO v L x.dst) x));rw [List.length_set,c.len,mF] at this;have:=ok.plen;omega
 have hnew:(eO v L x.dst).time+x.min≤2147483648*(qo (L.set (bz v x.src) (jR (eO v L x.dst) x)):Int):=by
  rcases hi with hi | hi
  ·rw [hc,if_pos hi];push_cast;omega
  ·by_cases hu:(eO v L x.src).pts<0
   ·rw [hc,if_pos hu];push_cast;omega
   ·have h1:=xe hi;have h2:=c.bnd x.src p1 (by omega);simp only [jR] at h1;omega
 refine⟨⟨by rw [List.length_set];exact c.len,?_,fun s hs h=> ?_,fun s hs h=> ?_⟩,PH hg ?_⟩
 ·rw [wm ok c.len p1 hb];split
  ·rename_i e
   exfalso
   rw [←e,c.root] at hi;rcases hi with hi | hi
   ·simp at hi
   ·have:=xe hi;simp only [jR] at this;omega
  ·exact c.root
 ·rw [wm ok c.len p1 hs] at h ⊢;split at h
  ·rename_i e;subst e;rw [if_pos rfl];obtain⟨l,t,w1,w2,w3,w4⟩:=c.walk x.dst p2 hd;exact⟨x.dst::l,_,fw.2 ⟨x,t,ok.lkOf hx,w1,rfl⟩,by simp only [jR];omega,by simp only [jR,List.length_cons];push_cast;omega,w4⟩
  ·rename_i e;rw [if_neg e];exact c.walk s hs h
 ·rw [wm ok c.len p1 hs] at h ⊢;split at h
  ·rename_i e;rw [if_pos e];exact hnew
  ·rename_i e;rw [if_neg e];have:=c.bnd s hs h;omega
 ·have hw:wC (jR (eO v L x.dst) x)=((eO v L x.dst).time+x.min).toNat* 274877906944+((eO v L x.dst).pts+1).toNat:=by
   rw [wC,if_neg (by simp only [jR];omega)];rfl
  by_cases hu:(eO v L x.src).pts<0
  ·rw [hw,wC,if_pos hu];omega
  ·have hi:wI (jR (eO v L x.dst) x) (eO v L x.src)=true:=by
    rcases hi with hi | hi
    ·exact absurd hi hu
    ·exact hi
   obtain⟨s1,s2⟩:=c.rng ok p1 (by omega);rw [hw,wC,if_neg hu];have h1:=xe hi;simp only [jR] at h1;rcases h1 with h1 | ⟨h1,h2⟩
   ·have:((eO v L x.dst).time+x.min).toNat+1≤(eO v L x.src).time.toNat:=by omega
    omega
   ·rw [h1];omega
structure Uy (v:bv)(b:Bytes)(L:List TC):Prop where
 ok:kM v b L
 opt: ∀l s t,aL v.pts s=true→wk v s l=some t→eG s l=b→0≤(eO v L s).pts∧((eO v L s).time<t.1∨((eO v L s).time=t.1∧(eO v L s).pts≤l.length))
theorem kM.opt (ok:aY v)(c:kM v b L)(hf: ∀x∈v.lks,Ql v L x):Uy v b L:=by
 refine⟨c,fun l=> ?_⟩
 induction l with
 | nil=>
  intro s t hs h he;obtain rfl:=Option.some.inj h;have:s=b:=he;subst this;rw [c.root];simp
 | cons d l ih=>
  intro s t hs h he;obtain⟨x,u,h1,h2,rfl⟩:=fw.1 h;obtain⟨m,rfl,rfl⟩:=gF h1;obtain⟨i1,i2⟩:=ih x.dst u (ok.ends x m).2.1 h2 he;rcases hf x m with hc | ⟨hc1,hc2⟩
  ·omega
  ·refine⟨hc1,?_⟩;have:=KI hc2;simp only [jR] at this;simp only [List.length_cons]
   push_cast
   omega
structure FQ (v:bv)(L0:List TC)(ch:Bool)(L:List TC)(i:Nat):Prop where
 still:ch=false→Gh L=Gh L0∧ ∀x∈v.lks,bz v x.src<i→Ql v L x
 less:ch=true→Gh L<Gh L0
structure FR (v:bv)(L0:List TC)(ch:Bool)(L:List TC)(s:Bytes)(k:Nat):Prop where
 still:ch=false→Gh L=Gh L0∧(∀x∈v.lks,bz v x.src<bz v s→Ql v L x)∧ ∀j y,j<k→(lD v s)[j]? =some y→Ql v L y
 less:ch=true→Gh L<Gh L0
theorem FQ.start (v:bv)(L:List TC):FQ v L false L 0:=⟨fun _=>⟨rfl,fun x _ h=>by omega⟩,by simp⟩
theorem FQ.open {v:bv} {L0 L:List TC} {ch:Bool} {s:Bytes} (w:FQ v L0 ch L (bz v s)):FR v L0 ch L s 0:=⟨fun c=>⟨(w.still c).1,(w.still c).2,fun j y hj=>by omega⟩,w.less⟩
theorem FR.close {v:bv} (ok:aY v) {L0 L:List TC} {ch:Bool} {s:Bytes} {k:Nat} (hs:aL v.pts s=true)(w:FR v L0 ch L s k)(hk:(lD v s).length≤k):FQ v L0 ch L (bz v s+1):=by
 refine⟨fun c=>⟨(w.still c).1,fun x hx hxi=> ?_⟩,w.less⟩;rcases zN (bz v x.src) (bz v s) with h1 | h1
 ·exact (w.still c).2.1 x hx h1
 ·have:x.src=s:=iN ok (ok.ends x hx).1 hs (by omega);obtain⟨j,hj⟩:=List.getElem?_of_mem ((jA v s x).2 ⟨hx,this⟩);exact (w.still c).2.2 j x (by have:=aK hj;omega) hj
theorem FR.keep {v:bv} {L0 L:List TC} {ch:Bool} {s:Bytes} {k:Nat} {x:Lk} (w:FR v L0 ch L s k)(hx:(lD v s)[k]? =some x)(hf:Ql v L x):FR v L0 ch L s (k+1):=by
 refine⟨fun c=>⟨(w.still c).1,(w.still c).2.1,fun j y hj hy=> ?_⟩,w.less⟩;rcases zN j k with h1 | h1
 ·exact (w.still c).2.2 j y h1 hy
 ·obtain rfl:j=k:=by omega
  rw [hx] at hy;obtain rfl:=Option.some.inj hy;exact hf
theorem FR.turn {v:bv} {L0 L L':List TC} {ch:Bool} {s:Bytes} {k k':Nat} (w:FR v L0 ch L s k)(h:Gh L'<Gh L):FR v L0 true L' s k':=by
 refine⟨by simp,fun _=> ?_⟩
 cases ch with
 | false=>rw [←(w.still rfl).1];exact h
 | true=>exact Nat.lt_trans h (w.less rfl)
theorem FQ.down {v:bv} {L0 L:List TC} {ch:Bool} {i:Nat} (w:FQ v L0 ch L i):2*Gh L+ch.toNat<2*Gh L0+1:=by
 cases ch with
 | false=>have:=(w.still rfl).1;simp;omega
 | true=>have:=w.less rfl;simp;omega
structure ZE (v:bv)(ch:Bool)(L:List TC)(M:Nat):Prop where
 fix:ch=false→ ∀x∈v.lks,Ql v L x
 mu:M=2*Gh L+ch.toNat
def oH (n i:Nat):List TC:=List.replicate i FO++List.replicate (n - i) ⟨0,0⟩
theorem Nz (n:Nat):oH n 0=List.replicate n ⟨0,0⟩:=by simp [oH]
theorem Qu (n:Nat):oH n n=List.replicate n FO:=by simp [oH]
theorem Qw {n i:Nat} (h:i≤n):(oH n i).length=n:=by simp [oH];omega
theorem Qv {n i:Nat} (h:i<n):(oH n i)[i]? =some ⟨0,0⟩:=by
 rw [oH,zD (by simp),List.length_replicate,Nat.sub_self,show n - i=(n - (i+1))+1 by omega,List.replicate_succ];rfl
theorem Qx {n i:Nat} (h:i<n):(oH n i).set i FO=oH n (i+1):=by
 rw [oH,oH,List.set_append_right _ _ (by simp),List.length_replicate,Nat.sub_self,show n - i=(n - (i+1))+1 by omega,List.replicate_succ,List.set_cons_zero,show List.replicate (i+1) FO=List.replicate i FO++[FO] from List.replicate_succ',zK];rfl
def uU (v:bv)(L:List TC)(x:Lk):Prop:=0≤(eO v L x.dst).pts∧jR (eO v L x.dst) x=eO v L x.src
theorem Uy.tight (ok:aY v)(c:Uy v b L) {x:Lk} (hx:x∈v.lks) {l:List Bytes} {t:Int×Int} (h:wk v x.dst l=some t)(he:eG x.dst l=b)(h1:x.min+t.1=(eO v L x.src).time)(h2:(l.length:Int)+1=(eO v L x.src).pts):uU v L x:=by
 obtain⟨p1,p2,p3⟩:=ok.ends x hx;obtain⟨o1,o2⟩:=c.opt l x.dst t p2 h he;obtain⟨l',t',w1,w2,w3,w4⟩:=c.ok.walk x.dst p2 o1;obtain⟨o3,o4⟩:=c.opt (x.dst::l') x.src _ p1 (fw.2 ⟨x,t',ok.lkOf hx,w1,rfl⟩) w4;simp only [List.length_cons] at o4
 push_cast at o4
 refine⟨o1,?_⟩;have e1:(jR (eO v L x.dst) x).time=(eO v L x.src).time:=by simp only [jR];omega
 have e2:(jR (eO v L x.dst) x).pts=(eO v L x.src).pts:=by simp only [jR];omega
 cases h5:jR (eO v L x.dst) x with
 | mk p q=>cases h6:eO v L x.src with
  | mk p' q'=>rw [h5,h6] at e1 e2;simp only at e1 e2;rw [e1,e2]
structure CK (v:bv)(a b:Bytes)(L:List TC)(x:List Bytes)(u:Bytes):Prop where
 ends:eG a x=u
 pt:aL v.pts u=true
 set:0≤(eO v L u).pts
 walk: ∃t,wk v a x=some t∧t.1+(eO v L u).time=(eO v L a).time
 len:(x.length:Int)+(eO v L u).pts=(eO v L a).pts
 first: ∀l s,wk v a l=some s→eG a l=b→s.1=(eO v L a).time→(l.length:Int)=(eO v L a).pts→fq x (l.take x.length)≤0
theorem CK.start {a:Bytes} (ha:aL v.pts a=true)(h:0≤(eO v L a).pts):CK v a b L [] a:=
 ⟨rfl,ha,h,⟨(0,0),rfl,by simp⟩,by simp,fun l s _ _ _ _=>by simp [fq]⟩
theorem CK.exists (ok:aY v)(c:Uy v b L) {a u:Bytes} {x:List Bytes} (w:CK v a b L x u)(hne:u≠b): ∃y∈v.lks,y.src=u∧uU v L y:=by
 obtain⟨l,t,w1,w2,w3,w4⟩:=c.ok.walk u w.pt w.set
 cases l with
 | nil=>exact absurd w4 hne
 | cons d l=>
  obtain⟨y,t',h1,h2,rfl⟩:=fw.1 w1;obtain⟨m,rfl,rfl⟩:=gF h1;exact⟨y,m,rfl,c.tight ok m h2 w4 w2 (by simp only [List.length_cons] at w3;push_cast at w3;exact w3)⟩
theorem CK.step (ok:aY v)(c:Uy v b L) {a u:Bytes} {x:List Bytes} (w:CK v a b L x u) {k:Nat} {y:Lk} (hk:(lD v u)[k]? =some y)(hy:uU v L y)(hfirst: ∀j z,j<k→(lD v u)[j]? =some z→ ¬uU v L z):
  CK v a b L (x++[y.dst]) y.dst∧(eO v L y.dst).pts+1=(eO v L u).pts:=by
 obtain⟨hym,hys⟩:=(jA v u y).1 (zF hk);obtain⟨p1,p2,p3⟩:=ok.ends y hym;obtain⟨o1,o2⟩:=hy;rw [hys] at o2;have e1:(eO v L y.dst).time+y.min=(eO v L u).time:=congrArg TC.time o2;have e2:(eO v L y.dst).pts+1=(eO v L u).pts:=congrArg TC.pts o2;obtain⟨t,t1,t2⟩:=w.walk;have hlen:=w.len;refine⟨⟨gJ _ _ _,p2,o1,⟨_,mY.2 ⟨t,(y.min+0,y.max+0),t1,?_,rfl⟩,?_⟩,?_,?_⟩,e2⟩
 ·rw [w.ends,←hys];exact fw.2 ⟨y,(0,0),ok.lkOf hym,rfl,rfl⟩
 ·show t.1+(y.min+0)+_=_;omega
 ·simp;omega
 ·intro l s h he hs hl;have hf:=w.first l s h he hs hl;have hll:x.length<l.length:=by
   have:=c.ok.rng ok p2 o1;omega
  obtain⟨e,hle,_⟩: ∃e,l[x.length]? =some e∧True:=⟨_,zB hll,trivial⟩;rw [List.length_append,List.length_singleton,zM,hle,Option.toList_some,Ey _ _ (by simp;omega)];split
  ·rename_i hz;have hxe:x=l.take x.length:=vV.1 hz;rw [Ti,O3];have hsplit:l=x++e::l.drop (x.length+1):=by
    conv=>lhs;rw [←List.take_append_drop x.length l,←hxe]
    rw [List.drop_eq_getElem_cons hll,(zA.1 hle).2]
   rw [hsplit] at h he;obtain⟨t',w1,h1,h2,rfl⟩:=mY.1 h;rw [t1] at h1;obtain rfl:=Option.some.inj h1;rw [w.ends] at h2;rw [vK,w.ends] at he;obtain⟨z,w2,z1,z2,rfl⟩:=fw.1 h2;obtain⟨zm,zs,zd⟩:=gF z1;subst zd;have hon:uU v L z:=by
    refine c.tight ok zm z2 he ?_ ?_
    ·rw [zs];simp only at hs;omega
    ·rw [zs];simp;omega
   have hzm:z∈lD v u:=(jA v u z).2 ⟨zm,zs⟩;obtain⟨j,hj⟩:=List.getElem?_of_mem hzm;rcases Nat.lt_trichotomy j k with hjk | hjk | hjk
   ·exact absurd hon (hfirst j z hjk hj)
   ·subst hjk;rw [hk] at hj;rw [Option.some.inj hj];exact List.le_refl _
   ·obtain⟨b1,c1⟩:=zA.1 hk;obtain⟨b2,c2⟩:=zA.1 hj;have:=List.pairwise_iff_getElem.1 (Hz v u) k j b1 b2 hjk;rw [c1,c2] at this;exact of_decide_eq_true this
  ·exact hf
theorem CK.best (ok:aY v)(c:Uy v b L) {a:Bytes} {x:List Bytes} (ha:aL v.pts a=true)(w:CK v a b L x b):uf v a b x (eO v L a).time:=by
 obtain⟨t,t1,t2⟩:=w.walk;have hl:=w.len;rw [c.ok.root] at t2 hl;refine⟨⟨t,t1,by simpa using t2⟩,w.ends,fun l s h he=> ?_⟩;obtain⟨o1,o2⟩:=c.opt l a s ha h he;rcases o2 with o2 | ⟨o2,o3⟩
 ·exact .inl o2
 ·refine .inr ⟨o2,?_⟩;simp only [List.length_cons];by_cases e:(l.length:Int)=(eO v L a).pts
  ·right
   have hxl:x.length=l.length:=by simp at hl;omega
   have:=w.first l s h he o2.symm e;rw [hxl,List.take_length] at this;exact⟨by omega,by rw [Ij];exact this⟩
  ·left
   simp at hl;omega
theorem Uy.short (ok:aY v)(c:Uy v b L) {a:Bytes} (ha:aL v.pts a=true)(h:0≤(eO v L a).pts):(eO v L a).pts≤63:=by
 obtain⟨l,t,w1,w2,w3,w4⟩:=c.ok.walk a ha h;obtain⟨l',t',q1,q2,q3,_,q5⟩:=nZ ok _ a l t (Nat.le_refl _) w1;have hl:=sS ok q1 ha q3;have hp:=ok.plen;rcases q5 with rfl | ⟨q5,_⟩
 ·omega
 ·obtain⟨_,o2⟩:=c.opt l' a t' ha q1 (q2.trans w4);omega
theorem QW (x:Lk):uU v L x↔0≤(eO v L x.dst).pts∧(eO v L x.dst).time+x.min=(eO v L x.src).time∧(eO v L x.dst).pts+1=(eO v L x.src).pts:=by
 unfold uU jR
 cases eO v L x.src with
 | mk p q=>simp
end
end Go.Toll
end
section
namespace Go.Toll
open Go Go.Abs
def dS (v:bv)(far:List Int)(s:Bytes):Int:=far.getD (bz v s) 0
def eB (v:bv)(far:List Int)(y s:Bytes):Prop:=s=y∨dS v far s≠0
structure Hop (v:bv)(p:List Bytes)(y t:Bytes)(far:List Int)(Q:List Bytes):Prop where
 len:far.length=(bM v).length
 start:dS v far y=0
 qs: ∀s∈Q,aL v.pts s=true∧eB v far y s
 walk: ∀s,aL v.pts s=true→eB v far y s→0≤dS v far s∧Rk v (p++[y]) y (dS v far s).toNat s
 sorted:Q.Pairwise fun a b=>dS v far a≤dS v far b
 near: ∀u,Q.head? =some u→ ∀s,aL v.pts s=true→eB v far y s→dS v far s≤dS v far u+1
 closed: ∀s,aL v.pts s=true→eB v far y s→s∈Q∨(s≠t∧ ∀x∈v.lks,x.src=s→x.dst∈p++[y]∨(eB v far y x.dst∧dS v far x.dst≤dS v far s+1))
structure FP (v:bv)(p:List Bytes)(y t:Bytes)(far:List Int)(Q:List Bytes)(u:Bytes)(k:Nat):Prop where
 len:far.length=(bM v).length
 start:dS v far y=0
 qs: ∀s∈Q,aL v.pts s=true∧eB v far y s
 walk: ∀s,aL v.pts s=true→eB v far y s→0≤dS v far s∧Rk v (p++[y]) y (dS v far s).toNat s
 at':aL v.pts u=true∧eB v far y u∧u≠t
 sorted:Q.Pairwise fun a b=>dS v far a≤dS v far b
 low: ∀s∈Q,dS v far u≤dS v far s
 near: ∀s,aL v.pts s=true→eB v far y s→dS v far s≤dS v far u+1
 done: ∀j s,j<k→(df v u)[j]? =some s→s∈p++[y]∨eB v far y s
 closed: ∀s,aL v.pts s=true→eB v far y s→s=u∨s∈Q∨(s≠t∧ ∀x∈v.lks,x.src=s→x.dst∈p++[y]∨(eB v far y x.dst∧dS v far x.dst≤dS v far s+1))
section
variable {v : bv} {p : List Bytes} {y t : Bytes} {far : List Int} {Q : List Bytes}
theorem KU (ok:aY v) {s d:Bytes} (hl:far.length=(bM v).length)(hd:aL v.pts d=true)(hs:aL v.pts s=true)(n:Int):dS v (far.set (bz v d) n) s=if s=d then n else dS v far s:=by
 rw [dS,dS,List.getD_eq_getElem?_getD,List.getD_eq_getElem?_getD];by_cases e:s=d
 ·subst e;rw [zI (by rw [hl];exact d9 hs),if_pos rfl];rfl
 ·rw [zJ (fun h=>e (iN ok hd hs h).symm),if_neg e]
theorem Dx {s:Bytes} (hl:far.length=(bM v).length)(hs:aL v.pts s=true):far[bz v s]? =some (dS v far s):=by
 have h:bz v s<far.length:=by rw [hl];exact d9 hs
 rw [dS,List.getD_eq_getElem?_getD,zB h];rfl
theorem Hop.first (ok:aY v)(hy:aL v.pts y=true):Hop v p y t (List.replicate (bM v).length 0) [y]:=by
 have h0: ∀s,dS v (List.replicate (bM v).length 0) s=0:=fun s=>by
  rw [dS,List.getD_eq_getElem?_getD,List.getElem?_replicate];split <;> rfl
 have hs: ∀s,eB v (List.replicate (bM v).length 0) y s↔s=y:=fun s=>by
  unfold eB;rw [h0];simp
 refine⟨by simp,h0 y,fun s hm=> ?_,fun s hp h=> ?_,by simp,fun u hu s hp h=> ?_,fun s hp h=> ?_⟩
 ·rw [List.mem_singleton.1 hm];exact⟨hy,.inl rfl⟩
 ·rw [(hs s).1 h,h0];exact⟨by omega,[],(0,0),rfl,rfl,by simp,rfl⟩
 ·rw [h0,h0];omega
 ·rw [(hs s).1 h];exact .inl (by simp)
theorem Hop.claim (ok:aY v)(hp:Hop v p y t far Q)(hy:aL v.pts y=true): ∀k s,Rk v (p++[y]) y k s→aL v.pts s=true→(eB v far y s∧dS v far s≤k)∨ ∃u,Q.head? =some u∧dS v far u≤k
 | 0,s,h,_=>by
  rw [h.zero];exact .inl ⟨.inl rfl,by rw [hp.start];simp⟩
 | k+1,s,h,hs=>by
  obtain⟨s',h1,h2,h3,h4⟩:=h.back ok;have hs':aL v.pts s'=true:=by
   obtain⟨x,hx,e,_⟩:=(lM v s' s).1 h2;rw [←e];exact (ok.ends x hx).1
  rcases hp.claim ok hy k s' h1 hs' with⟨c1,c2⟩ | ⟨u,c1,c2⟩
  ·rcases hp.closed s' hs' c1 with hq | ⟨_,hc⟩
   ·right
    cases Q with
    | nil=>cases hq
    | cons u Q=>
     refine⟨u,rfl,?_⟩;have hsu:dS v far u≤dS v far s':=by
      rcases List.mem_cons.1 hq with rfl | hq
      ·exact Int.le_refl _
      ·exact (List.pairwise_cons.1 hp.sorted).1 s' hq
     omega
   ·obtain⟨x,hx,e1,e2⟩:=(lM v s' s).1 h2;rcases hc x hx e1 with h5 | ⟨h5,h6⟩
    ·rw [e2] at h5;exact absurd h5 h3
    ·rw [e2] at h5 h6;left
     exact⟨h5,by omega⟩
  ·exact .inr ⟨u,c1,by omega⟩
theorem Rk.short (ok:aY v) {q:List Bytes} (hy:aL v.pts y=true) {k:Nat} {s:Bytes} (h:Rk v q y k s): ∃k',k'≤k∧k'≤63∧Rk v q y k' s:=by
 obtain⟨w,c,h1,h2,h3,h4⟩:=h;obtain⟨w',c',q1,q2,q3,q4,q5⟩:=nZ ok _ y w c (Nat.le_refl _) h1;have hl:=sS ok q1 hy q3;have hp:=ok.plen;refine⟨w'.length,by rcases q5 with rfl | ⟨_,q5⟩ <;> omega,by omega,w',c',q1,by rw [q2,h2],fun z hz=>h3 z (q4 z hz),rfl⟩
theorem Hop.head_short (ok:aY v) {u:Bytes} (hp:Hop v p y t far (u::Q))(hy:aL v.pts y=true):0≤dS v far u∧dS v far u≤63:=by
 obtain⟨h1,h2⟩:=hp.qs u List.mem_cons_self;obtain⟨w1,w2⟩:=hp.walk u h1 h2;obtain⟨k',k1,k2,k3⟩:=w2.short ok hy;rcases hp.claim ok hy k' u k3 h1 with⟨_,c⟩ | ⟨u',c1,c2⟩
 ·omega
 ·obtain rfl:u=u':=Option.some.inj c1;omega
theorem Hop.found (ok:aY v)(hp:Hop v p y t far (t::Q))(hy:aL v.pts y=true):Rk v (p++[y]) y (dS v far t).toNat t∧ ∀k,Rk v (p++[y]) y k t→(dS v far t).toNat≤k:=by
 obtain⟨h1,h2⟩:=hp.qs t List.mem_cons_self;refine⟨(hp.walk t h1 h2).2,fun k h=> ?_⟩;rcases hp.claim ok hy k t h h1 with⟨_,c⟩ | ⟨u',c1,c2⟩
 ·omega
 ·obtain rfl:t=u':=Option.some.inj c1;omega
theorem Hop.none (ok:aY v)(hp:Hop v p y t far [])(hy:aL v.pts y=true)(ht:aL v.pts t=true)(k:Nat): ¬Rk v (p++[y]) y k t:=fun h=>by
 rcases hp.claim ok hy k t h ht with⟨c,_⟩ | ⟨u',c1,_⟩
 ·rcases hp.closed t ht c with h1 | ⟨h1,_⟩
  ·cases h1
  ·exact h1 rfl
 ·cases c1
theorem Hop.pop {u:Bytes} (hp:Hop v p y t far (u::Q))(hu:u≠t):FP v p y t far Q u 0:=by
 obtain⟨s1,s2⟩:=List.pairwise_cons.1 hp.sorted;obtain⟨h1,h2⟩:=hp.qs u List.mem_cons_self;refine⟨hp.len,hp.start,fun s hs=>hp.qs s (List.mem_cons_of_mem _ hs),hp.walk,⟨h1,h2,hu⟩,s2,s1,hp.near u rfl,fun j s hj=>by omega,fun s hs hh=> ?_⟩;rcases hp.closed s hs hh with h | h
 ·rcases List.mem_cons.1 h with rfl | h
  ·exact .inl rfl
  ·exact .inr (.inl h)
 ·exact .inr (.inr h)
theorem FP.old {u d:Bytes} {k:Nat} (m:FP v p y t far Q u k)(hd:(df v u)[k]? =some d)(h:d∈p++[y]∨eB v far y d):FP v p y t far Q u (k+1):=by
 refine⟨m.len,m.start,m.qs,m.walk,m.at',m.sorted,m.low,m.near,fun j s hj hs=> ?_,m.closed⟩;rcases zN j k with h1 | h1
 ·exact m.done j s h1 hs
 ·obtain rfl:j=k:=by omega
  rw [hd] at hs;obtain rfl:=Option.some.inj hs;exact h
theorem FP.new (ok:aY v) {u d:Bytes} {k:Nat} (m:FP v p y t far Q u k)(hd:(df v u)[k]? =some d)(hz:dS v far d=0)(hdy:d≠y)(hdp:d∉p)(hy:aL v.pts y=true):
  FP v p y t (far.set (bz v d) (dS v far u+1)) (Q++[d]) u (k+1):=by
 have hdm:=zF hd;have hdpt:=PI ok hdm;obtain⟨u1,u2,u3⟩:=m.at';obtain⟨w1,w2⟩:=m.walk u u1 u2;have hnd: ¬eB v far y d:=by
  rintro (e | e)
  ·exact hdy e
  ·exact e hz
 have hne: ∀s,eB v far y s→s≠d:=fun s h e=>hnd (e▸h);have key: ∀s,aL v.pts s=true→dS v (far.set (bz v d) (dS v far u+1)) s=if s=d then dS v far u+1 else dS v far s:=fun s hs=>KU ok m.len hdpt hs _
 have old: ∀s,aL v.pts s=true→eB v far y s→dS v (far.set (bz v d) (dS v far u+1)) s=dS v far s:=fun s hs h=>by rw [key s hs,if_neg (hne s h)]
 have seen: ∀s,aL v.pts s=true→(eB v (far.set (bz v d) (dS v far u+1)) y s↔s=d∨eB v far y s):=fun s hs=>by
  unfold eB;rw [key s hs];by_cases e:s=d
  ·rw [if_pos e];exact⟨fun _=> .inl e,fun _=> .inr (by omega)⟩
  ·rw [if_neg e];constructor
   ·exact fun h=> .inr h
   ·rintro (h | h)
    ·exact absurd h e
    ·exact h
 have hfd:dS v (far.set (bz v d) (dS v far u+1)) d=dS v far u+1:=by rw [key d hdpt,if_pos rfl]
 have hfu:=old u u1 u2;refine⟨by rw [List.length_set];exact m.len,by rw [old y hy (.inl rfl)];exact m.start,fun s hs=> ?_,fun s hs h=> ?_,⟨u1,(seen u u1).2 (.inr u2),u3⟩,?_,fun s hs=> ?_,fun s hs h=> ?_,fun j s hj hs=> ?_,fun s hs h=> ?_⟩
 ·rcases List.mem_append.1 hs with hs | hs
  ·exact⟨(m.qs s hs).1,(seen s (m.qs s hs).1).2 (.inr (m.qs s hs).2)⟩
  ·rw [List.mem_singleton.1 hs];exact⟨hdpt,(seen d hdpt).2 (.inl rfl)⟩
 ·rcases (seen s hs).1 h with rfl | h
  ·rw [hfd];refine⟨by omega,?_⟩;have:(dS v far u+1).toNat=(dS v far u).toNat+1:=by omega
   rw [this];exact w2.step ok hdm (by simp [hdp,hdy])
  ·rw [old s hs h];exact m.walk s hs h
 ·refine List.pairwise_append.2 ⟨List.Pairwise.imp_of_mem (fun ha hb h=> ?_) m.sorted,List.pairwise_singleton _ _,fun a ha b hb=> ?_⟩
  ·rw [old _ (m.qs _ ha).1 (m.qs _ ha).2,old _ (m.qs _ hb).1 (m.qs _ hb).2];exact h
  ·rw [List.mem_singleton.1 hb,hfd,old a (m.qs a ha).1 (m.qs a ha).2];exact m.near a (m.qs a ha).1 (m.qs a ha).2
 ·rw [hfu];rcases List.mem_append.1 hs with hs | hs
  ·rw [old s (m.qs s hs).1 (m.qs s hs).2];exact m.low s hs
  ·rw [List.mem_singleton.1 hs,hfd];omega
 ·rw [hfu];rcases (seen s hs).1 h with rfl | h
  ·rw [hfd];omega
  ·rw [old s hs h];exact m.near s hs h
 ·have hsp:=PI ok (zF hs);rcases zN j k with h1 | h1
  ·rcases m.done j s h1 hs with h2 | h2
   ·exact .inl h2
   ·exact .inr ((seen s hsp).2 (.inr h2))
  ·obtain rfl:j=k:=by omega
   rw [hd] at hs;obtain rfl:=Option.some.inj hs;exact .inr ((seen d hsp).2 (.inl rfl))
 ·rcases (seen s hs).1 h with rfl | h
  ·exact .inr (.inl (by simp))
  ·rcases m.closed s hs h with h1 | h1 | ⟨h1,h2⟩
   ·exact .inl h1
   ·exact .inr (.inl (by simp [h1]))
   ·refine .inr (.inr ⟨h1,fun x hx e=> ?_⟩);rcases h2 x hx e with h3 | ⟨h3,h4⟩
    ·exact .inl h3
    ·have:=(ok.ends x hx).2.1;rw [old x.dst this h3,old s hs h];exact .inr ⟨(seen x.dst this).2 (.inr h3),h4⟩
theorem FP.finish (ok:aY v) {u:Bytes} (m:FP v p y t far Q u (df v u).length):Hop v p y t far Q:=by
 obtain⟨u1,u2,u3⟩:=m.at';refine⟨m.len,m.start,m.qs,m.walk,m.sorted,fun w hw s hs h=> ?_,fun s hs h=> ?_⟩
 ·have h1:=m.near s hs h;have h2:dS v far u≤dS v far w:=by
   cases Q with
   | nil=>cases hw
   | cons w' Q=>
    obtain rfl:w'=w:=Option.some.inj hw;exact m.low _ List.mem_cons_self
  omega
 ·rcases m.closed s hs h with rfl | h1 | h1
  ·right
   refine⟨u3,fun x hx e=> ?_⟩;have hm:x.dst∈df v s:=(lM v s x.dst).2 ⟨x,hx,e,rfl⟩;obtain⟨j,hj⟩:=List.getElem?_of_mem hm;rcases m.done j _ (zA.1 hj).1 hj with h2 | h2
   ·exact .inl h2
   ·exact .inr ⟨h2,m.near _ (ok.ends x hx).2.1 h2⟩
  ·exact .inl h1
  ·exact .inr h1
theorem RO {far:List Int} {i:Nat} {n:Int} (h:far[i]? =some 0)(hn:n≠0):(far.set i n).count 0+1=far.count 0:=by
 induction far generalizing i with
 | nil=>simp at h
 | cons b far ih=>
  cases i with
  | zero=>
   simp at h;subst h
   simp [List.count_cons,hn]
  | succ i=>
   have:=ih (i:=i) (by simpa using h);rw [List.set_cons_succ,List.count_cons,List.count_cons];omega
def VQ (v:bv)(p:List Bytes)(y t:Bytes)(n:Int):Prop:=(n= -1∧ ∀k,¬Rk v (p++[y]) y k t)∨(0≤n∧n≤63∧Rk v (p++[y]) y n.toNat t∧ ∀k,Rk v (p++[y]) y k t→n.toNat≤k)
theorem K5 (ok:aY v) {p:List Bytes} {y t:Bytes} {n:Int} (h:VQ v p y t n):jK v (p++[y]) t=decide (0≤n∧(p.length:Int)+1+n≤16):=by
 rw [Bool.eq_iff_iff,Dh ok t (by simp),decide_eq_true_iff,kC];rcases h with⟨rfl,h⟩ | ⟨h0,h63,h1,h2⟩
 ·constructor
  ·rintro⟨k,hk,_⟩;exact absurd hk (h k)
  ·rintro⟨h,_⟩;omega
 ·constructor
  ·rintro⟨k,hk,hl⟩;have:=h2 k hk;simp at hl;omega
  ·rintro⟨_,hl⟩;exact⟨n.toNat,h1,by simp;omega⟩
end
end Go.Toll
end
section
namespace Go.Toll
open Go Go.Abs
def Gc (v:bv)(S F:List Bytes)(i:Nat):List Bytes×List Bytes:=(F.take i).foldl (kT v) (S,[])
def NK (v:bv)(S F:List Bytes)(i:Nat)(y:Bytes)(j:Nat):List Bytes×List Bytes:=((df v y).take j).foldl kS (Gc v S F i)
section
variable {v : bv} {S F M p : List Bytes} {i j n : Nat} {x y t : Bytes}
theorem QG (v:bv)(S F:List Bytes)(i:Nat)(y:Bytes):NK v S F i y 0=Gc v S F i:=rfl
theorem Su (v:bv)(S F:List Bytes):Gc v S F F.length=xg v S F:=by rw [Gc,List.take_length];rfl
theorem QF (h:(df v y)[j]? =some x):NK v S F i y (j+1)=kS (NK v S F i y j) x:=by
 rw [NK,zM,h,Option.toList_some,List.foldl_append];rfl
theorem Sv (h:F[i]? =some y):NK v S F i y (df v y).length=Gc v S F (i+1):=by
 rw [NK,List.take_length,Gc,Gc,zM,h,Option.toList_some,List.foldl_append];rfl
theorem Qp (h:x∈S):kS (S,M) x=(S,M):=by rw [kS,if_pos h]
theorem Nh (h:x∉S):kS (S,M) x=(S++[x],M++[x]):=by rw [kS,if_neg h]
theorem Sb (h:t∈F):Dj v t (n+1) S F=true:=by rw [Dj,if_pos h]
theorem Qq (h:t∉F):Dj v t (n+1) S F=Dj v t n (Gc v S F F.length).1 (Gc v S F F.length).2:=by rw [Dj,if_neg h,Su]
def Cp (v:bv)(p S M:List Bytes):Prop:= ∃W,S=p++W∧W.Nodup∧(∀z∈W,aL v.pts z=true)∧M.length≤W.length
theorem Cp.zero (v:bv)(p:List Bytes):Cp v p p []:=⟨[],by simp,by simp,by simp,by simp⟩
theorem Cp.new (c:Cp v p S M):Cp v p S []:=by
 obtain⟨W,h1,h2,h3,_⟩:=c;exact⟨W,h1,h2,h3,by simp⟩
theorem Cp.add (c:Cp v p S M)(hx:x∉S)(hp:aL v.pts x=true):Cp v p (S++[x]) (M++[x]):=by
 obtain⟨W,rfl,h2,h3,h4⟩:=c;refine⟨W++[x],by simp,?_,fun z hz=> ?_,by simp;omega⟩
 ·rw [List.nodup_append];exact⟨h2,by simp,fun a ha b hb e=>by
   rw [List.mem_singleton.1 hb] at e;exact hx (List.mem_append.2 (.inr (e▸ha)))⟩
 ·rcases List.mem_append.1 hz with h | h
  ·exact h3 z h
  ·rw [List.mem_singleton.1 h];exact hp
theorem Cp.len (c:Cp v p S M)(ok:aY v):S.length≤p.length+64∧M.length≤64:=by
 obtain⟨W,rfl,h2,h3,h4⟩:=c;have h1:=qj h2 (m:=v.pts.map (·.name)) fun z hz=>(vN _ _).1 (h3 z hz);have:=ok.plen;rw [List.length_map] at h1;rw [List.length_append];exact⟨by omega,by omega⟩
theorem G6 {path:List Bytes} {f:List (List Bytes)} {k:Nat} (h:1024<(mQ v t n path f k).length): ∀m,mQ v t n path f (k+m)=mQ v t n path f k
 | 0=>rfl
 | m+1=>by
  have ih:=G6 h m;rw [←Nat.add_assoc]
  cases e:(df v (lastT path))[k+m]? with
  | none=>
   rw [mQ,zM,e,Option.toList_none,List.append_nil];exact ih
  | some x=>rw [vL e,ih,qO (by rintro⟨c,_⟩;omega)]
theorem Xg (ok:aY v)(h:x∈df v y):aL v.pts x=true:=by
 obtain⟨k,hk,_,rfl⟩:=(lM v _ _).1 h;exact (ok.ends k hk).2.1
end
end Go.Toll
end
section
namespace Go.Toll
open Go Go.Abs
theorem UW (n:bv)(s:Bytes):(bH n s).isSome=aL (cO n).pts s:=by
 unfold bH cO;split
 ·rw [Bool.eq_iff_iff,List.find?_isSome];simp [aL]
 ·rfl
section
variable {v : bv}
theorem Qh (ok:aY v) {a:Bytes} {l:List Bytes} {s:Int×Int} (ha:aL v.pts a=true)(h:wk v a l=some s):bN v (a::l)=(s.1,s.2,0)∧ ∀z∈a::l,aL v.pts z=true:=by
 have hp: ∀z∈a::l,aL v.pts z=true:=fun z hz=>by
  rcases List.mem_cons.1 hz with e | e
  ·rw [e];exact ha
  ·exact (Kn ok h).1 z e
 refine⟨?_,hp⟩;rw [kr hp,h]
structure CF (v:bv)(a b:Bytes)(q:List Bytes)(l:List Bytes)(s:Int×Int):Prop where
 eq:q=a::l
 bnd:bN v q=(s.1,s.2,0)
 walk:wk v a l=some s
 ends:eG a l=b
 nd:q.Nodup
 len:q.length≤16
 pts: ∀z∈q,aL v.pts z=true
theorem JN (ok:aY v) {a b:Bytes} {i:Nat} {q:List Bytes} (h:(eH v a b).1[i]? =some q): ∃l s,CF v a b q l s:=by
 obtain⟨l,s,h1,h2,h3,h4,h5,h6,_⟩:=(uX ok a b).2.2 q (zF h);subst h1;have:=Qh ok h6 h2;exact⟨l,s,rfl,this.1,h2,h3,h4,h5,this.2⟩
theorem P9 {a b:Bytes} {l:List Bytes} {d:Int} (h:uf v a b l d) {q l':List Bytes} {s:Int×Int} (p:CF v a b q l' s):d≤s.1∧(s.1=d→ ¬q.length<l.length+1∧(q.length=l.length+1→0≤fq q (a::l))):=by
 have hb:=h.best l' s p.walk p.ends;have hq:=p.eq;subst hq;unfold FT at hb;have han:=vU (a::l) (a::l');simp only [List.length_cons] at hb ⊢;rcases hb with c | ⟨c,c2⟩
 ·exact⟨by omega,fun e=>by omega⟩
 ·refine⟨by omega,fun _=>⟨by omega,fun e=>by omega⟩⟩
end
end Go.Toll
end
