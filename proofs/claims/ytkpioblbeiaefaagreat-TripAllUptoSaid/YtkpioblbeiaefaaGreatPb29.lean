/- Part 29 of the lemmas below the statements of this seat: SymmTrip, StableTrip, SortExc. -/
import Derived.Test.YtkpioblbeiaefaaGreatPb28
set_option linter.unusedSectionVars false
set_option linter.unusedVariables false
set_option linter.unusedSimpArgs false
set_option linter.unnecessarySimpa false
set_option maxRecDepth 100000
namespace Go.Proofs.YtkpioblbeiaefaaGreat
open Go Go.Abs Go.Toll
variable {gl : aR} {h : ak}
set_option maxHeartbeats 1000000 in
theorem Fp (b:Nat)(hb:b<h.length)(N:Nat)(hl:N≤1000000)(S:List (List AV))(hn: ∀e∈S,e.length=5)(f:FuncId)(caps:List AV)(c:List AV→List AV→Int)(o:SWO (fun x y=>decide (c x y<0)))
  (hc: ∀x∈S,∀y∈S,∀o,af Tryz.prog gl f (.agg x:: .agg y::caps) (h.set b o) fun v h'=>v= .int .i64 (c x y)∧h'=h.set b o)
  (P X Y Q:List (List AV)) (a m z:Nat) (hX:0<X.length) (hY:0<Y.length) (sX:qz (fun x y=>decide (c x y<0)) X) (sY:qz (fun x y=>decide (c x y<0)) Y) (ha:P.length=a) (hm:a+X.length=m) (hz:m+Y.length=z) (hN:N=z+Q.length)
  (hS: ∀e∈P++(X++(Y++Q)),e∈S) (n:Nat) (hXY:X.length+Y.length≤n+1)
  (ih: ∀(P X Y Q:List (List AV)) (a m z:Nat),X.length+Y.length≤n→0<X.length→0<Y.length→
  qz (fun x y=>decide (c x y<0)) X→qz (fun x y=>decide (c x y<0)) Y→P.length=a→a+X.length=m→m+Y.length=z→N=z+Q.length→(∀e∈P++(X++(Y++Q)),e∈S)→
   af Tryz.prog gl 136 [.own b 0 N,.int .i64 a,.int .i64 m,.int .i64 z,.fn (.func f) [] caps] (h.set b (.cells 5 (P++(X++(Y++Q)))))
    fun v h'=>v= .tup []∧h'=h.set b (.cells 5 (P++(aT (fun x y=>decide (c x y<0)) (X++Y)++Q))))
  (mid nn i e:Nat) (hm1:2*mid≤a+z) (hm2:a+z<2*mid+2) (hnn:mid+m=nn) (hia:a≤i) (him:i≤m) (g1:m≤nn - i) (g2:nn - i≤z) (he:nn - i=e)
  (hdone:aT (fun x y=>decide (c x y<0)) (X.take (i - a)++Y.take (nn - i - m))++aT (fun x y=>decide (c x y<0)) (X.drop (i - a)++Y.drop (nn - i - m))=aT (fun x y=>decide (c x y<0)) (X++Y)):
  ∃cur2 cur3:List (List AV),
   (i<m→m<e→af Tryz.prog gl 166 [.own b 0 N,.int .i64 i,.int .i64 m,.int .i64 e,.fn (.func f) [] caps] (h.set b (.cells 5 (P++(X++(Y++Q))))) fun v h'=>v= .tup []∧h'=h.set b (.cells 5 cur2))∧(¬(i<m∧m<e)→P++(X++(Y++Q))=cur2)∧
   (a<i→i<mid→af Tryz.prog gl 136 [.own b 0 N,.int .i64 a,.int .i64 i,.int .i64 mid,.fn (.func f) [] caps] (h.set b (.cells 5 cur2)) fun v h'=>v= .tup []∧h'=h.set b (.cells 5 cur3))∧(¬(a<i∧i<mid)→cur2=cur3)∧
   (mid<e→e<z→af Tryz.prog gl 136 [.own b 0 N,.int .i64 mid,.int .i64 e,.int .i64 z,.fn (.func f) [] caps] (h.set b (.cells 5 cur3)) fun v h'=>v= .tup []∧h'=h.set b (.cells 5 (P++(aT (fun x y=>decide (c x y<0)) (X++Y)++Q))))∧(¬(mid<e∧e<z)→cur3=P++(aT (fun x y=>decide (c x y<0)) (X++Y)++Q)):=by
 have hl1:(X.take (i - a)).length=i - a:=by simp;omega
 have hl2:(X.drop (i - a)).length=m - i:=by simp;omega
 have hl3:(Y.take (nn - i - m)).length=nn - i - m:=by simp;omega
 have hl4:(Y.drop (nn - i - m)).length=z - (nn - i):=by simp;omega
 have hX':X=X.take (i - a)++X.drop (i - a):=(List.take_append_drop _ _).symm;have hY':Y=Y.take (nn - i - m)++Y.drop (nn - i - m):=(List.take_append_drop _ _).symm;have sx1:=sX.take (i - a);have sx2:=sX.drop (i - a);have sy1:=sY.take (nn - i - m);have sy2:=sY.drop (nn - i - m);generalize X.take (i - a)=x1 at*;generalize X.drop (i - a)=x2 at*;generalize Y.take (nn - i - m)=y1 at*;generalize Y.drop (nn - i - m)=y2 at*;have g1:m≤nn - i:=by omega
 have g2:nn - i≤z:=by omega
 have g3:i - a+(nn - i - m)=mid - a:=by omega
 rw [he] at hl3 hl4 g1 g2 g3;have hS': ∀q∈P++(x1++(x2++(y1++(y2++Q)))),q∈S:=by rw [hX',hY'] at hS;simpa using hS
 have ha1:P++(X++(Y++Q))=P++(x1++(x2++(y1++(y2++Q)))):=by rw [hX',hY'];simp
 clear hX' hY';have hfin:P++(aT (fun x y=>decide (c x y<0)) (X++Y)++Q)=(P++aT (fun x y=>decide (c x y<0)) (x1++y1))++(aT (fun x y=>decide (c x y<0)) (x2++y2)++Q):=by rw [←hdone];simp
 have hrot:i<m→m<e→af Tryz.prog gl 166 [.own b 0 N,.int .i64 i,.int .i64 m,.int .i64 e,.fn (.func f) [] caps] (h.set b (.cells 5 (P++(X++(Y++Q))))) fun v h'=>v= .tup []∧h'=h.set b (.cells 5 (P++(x1++(y1++(x2++(y2++Q)))))):=by
  intro k1 k2;have:=Mj (gl:=gl) (h:=h) b (P++x1) x2 y1 (y2++Q) i m e N (by simp;omega) (by omega) (by omega) (by simp;omega) hl (by omega) (by omega) hb (fun q hq=>hn q (hS' q (by simpa using hq))) f caps;rw [ha1];simpa using this
 have hsame: ¬(i<m∧m<e)→P++(X++(Y++Q))=P++(x1++(y1++(x2++(y2++Q)))):=by
  intro k;rw [ha1];rcases zN i m with k1 | k1
  ·have:y1=[]:=List.length_eq_zero_iff.1 (by omega);simp [this]
  ·have:x2=[]:=List.length_eq_zero_iff.1 (by omega);simp [this]
 have hr1:a<i→i<mid→af Tryz.prog gl 136 [.own b 0 N,.int .i64 a,.int .i64 i,.int .i64 mid,.fn (.func f) [] caps] (h.set b (.cells 5 (P++(x1++(y1++(x2++(y2++Q))))))) fun v h'=>v= .tup []∧h'=h.set b (.cells 5 (P++(aT (fun x y=>decide (c x y<0)) (x1++y1)++(x2++(y2++Q))))):=by
  intro k1 k2;refine ih P x1 y1 (x2++(y2++Q)) a i mid (by omega) (by omega) (by omega) sx1 sy1 ha (by omega) (by omega) (by simp;omega) (fun q hq=>hS' q ?_);simp at hq ⊢;rcases hq with k | k | k | k | k | k <;> simp [k]
 have hsame1: ¬(a<i∧i<mid)→P++(x1++(y1++(x2++(y2++Q))))=P++(aT (fun x y=>decide (c x y<0)) (x1++y1)++(x2++(y2++Q))):=by
  intro k;rcases zN a i with k1 | k1
  ·have:y1=[]:=List.length_eq_zero_iff.1 (by omega);rw [this,List.append_nil,lh o sx1];simp
  ·have:x1=[]:=List.length_eq_zero_iff.1 (by omega);rw [this,List.nil_append,List.nil_append,lh o sy1]
 have hl5:(aT (fun x y=>decide (c x y<0)) (x1++y1)).length=mid - a:=by rw [bI];simp;omega
 have hr2:mid<e→e<z→af Tryz.prog gl 136 [.own b 0 N,.int .i64 mid,.int .i64 e,.int .i64 z,.fn (.func f) [] caps] (h.set b (.cells 5 (P++(aT (fun x y=>decide (c x y<0)) (x1++y1)++(x2++(y2++Q)))))) fun v h'=>v= .tup []∧h'=h.set b (.cells 5 (P++(aT (fun x y=>decide (c x y<0)) (X++Y)++Q))):=by
  intro k1 k2;have:=ih (P++aT (fun x y=>decide (c x y<0)) (x1++y1)) x2 y2 Q mid e z (by omega) (by omega) (by omega) sx2 sy2 (by simp [hl5];omega) (by omega) (by omega) (by omega) (fun q hq=>hS' q ?_)
  ·rw [hfin];simpa using this
  simp only [List.mem_append,dW] at hq ⊢;rcases hq with (k | k | k) | k | k | k <;> simp [k]
 have hsame2: ¬(mid<e∧e<z)→P++(aT (fun x y=>decide (c x y<0)) (x1++y1)++(x2++(y2++Q)))=P++(aT (fun x y=>decide (c x y<0)) (X++Y)++Q):=by
  intro k;rw [hfin];rcases zN mid e with k1 | k1
  ·have:y2=[]:=List.length_eq_zero_iff.1 (by omega);rw [this,List.append_nil,lh o sx2];simp
  ·have:x2=[]:=List.length_eq_zero_iff.1 (by omega);rw [this,List.nil_append,List.nil_append,lh o sy2];simp
 exact⟨_,_,hrot,hsame,hr1,hsame1,hr2,hsame2⟩
set_option maxHeartbeats 4000000 in
theorem Fg (b:Nat)(hb:b<h.length)(N:Nat)(hl:N≤1000000)(S:List (List AV))(hn: ∀e∈S,e.length=5)(f:FuncId)(caps:List AV)(c:List AV→List AV→Int)(o:SWO (fun x y=>decide (c x y<0)))
  (hc: ∀x∈S,∀y∈S,∀o,af Tryz.prog gl f (.agg x:: .agg y::caps) (h.set b o) fun v h'=>v= .int .i64 (c x y)∧h'=h.set b o) (n:Nat)
  (ih: ∀(P X Y Q:List (List AV)) (a m z:Nat),X.length+Y.length≤n→0<X.length→0<Y.length→
  qz (fun x y=>decide (c x y<0)) X→qz (fun x y=>decide (c x y<0)) Y→P.length=a→a+X.length=m→m+Y.length=z→N=z+Q.length→(∀e∈P++(X++(Y++Q)),e∈S)→
   af Tryz.prog gl 136 [.own b 0 N,.int .i64 a,.int .i64 m,.int .i64 z,.fn (.func f) [] caps] (h.set b (.cells 5 (P++(X++(Y++Q)))))
    fun v h'=>v= .tup []∧h'=h.set b (.cells 5 (P++(aT (fun x y=>decide (c x y<0)) (X++Y)++Q)))): ∀(P X Y Q:List (List AV)) (a m z:Nat),X.length+Y.length≤n+1→ ¬X.length=1→ ¬Y.length=1→0<X.length→0<Y.length→
  qz (fun x y=>decide (c x y<0)) X→qz (fun x y=>decide (c x y<0)) Y→P.length=a→a+X.length=m→m+Y.length=z→N=z+Q.length→(∀e∈P++(X++(Y++Q)),e∈S)→
  af Tryz.prog gl 136 [.own b 0 N,.int .i64 a,.int .i64 m,.int .i64 z,.fn (.func f) [] caps] (h.set b (.cells 5 (P++(X++(Y++Q)))))
   fun v h'=>v= .tup []∧h'=h.set b (.cells 5 (P++(aT (fun x y=>decide (c x y<0)) (X++Y)++Q))):=by
 intro P X Y Q a m z hXY hX1 hY1 hX hY sX sY ha hm hz hN hS;refine af.body Tryz.f136 _ mixed Tryz.func136 rfl rfl (by simp [Tryz.ntmps136]) ?_;have w1:IntKind.i64.wrap ((m:Int) - a)=X.length:=by rw [aD (by omega) (by omega)];omega
 have w2:IntKind.i64.wrap ((z:Int) - m)=Y.length:=by rw [aD (by omega) (by omega)];omega
 have gX: ∀t x,a≤t→t<m→X[t - a]? =some x→(P++(X++(Y++Q)))[t]? =some x:=fun t x h1 h2 hx=>by rw [WV (by omega) (by omega),ha];exact hx
 have gY: ∀t y,m≤t→t<z→Y[t - m]? =some y→(P++(X++(Y++Q)))[t]? =some y:=fun t y h1 h2 hy=>by rw [WW (by omega) (by omega),ha,hm];exact hy
 have hal:(P++(X++(Y++Q))).length=N:=by simp;omega
 have n1: ¬(X.length:Int)=1:=by omega
 have n2: ¬(Y.length:Int)=1:=by omega
 have wh:=ww (i:=a) (j:=z) (by omega);obtain⟨mid,hmid⟩: ∃mid,(a+z) / 2=mid:=⟨_,rfl⟩;rw [hmid] at wh;have hm1:2*mid≤a+z:=by omega
 have hm2:a+z<2*mid+2:=by omega
 have w3:IntKind.i64.wrap ((mid:Int)+m)=(mid+m:Nat):=by rw [aD (by omega) (by omega)];omega
 obtain⟨nn,hnn⟩: ∃nn,mid+m=nn:=⟨_,rfl⟩;rw [hnn] at w3;have w4:IntKind.i64.wrap ((nn:Int) - 1)=(nn - 1:Nat):=by rw [aD (by omega) (by omega)];omega
 obtain⟨pp,hpp⟩: ∃pp,nn - 1=pp:=⟨_,rfl⟩;rw [hpp] at w4;obtain⟨s0,r0,hbr,F1,F2,F3,F4,F5,F6,F7,F8⟩: ∃s0 r0:Nat,((mid<m∧nn - z=s0∧mid=r0∧IntKind.i64.wrap ((nn:Int) - z)=(s0:Nat))∨(m≤mid∧a=s0∧m=r0))∧a≤s0∧s0≤r0∧
   (∀c,s0≤c→c<r0→a≤c∧c<m∧m≤pp - c∧pp - c<z∧c≤pp)∧r0≤m∧m≤nn - r0∧nn - s0≤z∧(r0=m∨nn - r0=m)∧(s0=a∨nn - s0=z):=by
  rcases zN mid m with hmm | hmm
  ·exact⟨nn - z,mid,.inl ⟨hmm,rfl,rfl,by rw [aD (by omega) (by omega)];omega⟩,by omega,by omega,fun c h1 h2=>by omega,by omega,by omega,by omega,by omega,by omega⟩
  ·exact⟨a,m,.inr ⟨hmm,rfl,rfl⟩,by omega,by omega,fun c h1 h2=>by omega,by omega,by omega,by omega,by omega,by omega⟩
 have done: ∀s,s0≤s→s≤r0→(s0<s→ ∀x y,X[s - 1 - a]? =some x→Y[pp - (s - 1) - m]? =some y→0≤c y x)→(s<r0→ ∀x y,X[s - a]? =some x→Y[pp - s - m]? =some y→c y x<0)→
   aT (fun x y=>decide (c x y<0)) (X.take (s - a)++Y.take (nn - s - m))++aT (fun x y=>decide (c x y<0)) (X.drop (s - a)++Y.drop (nn - s - m))=aT (fun x y=>decide (c x y<0)) (X++Y):=by
  intro s h1 h2 h3 h4;refine WN o sX sY (by omega) (by omega) ?_ ?_
  ·intro k1 k2 x y hx hy;have:s<r0:=by omega
   have:=h4 this x y hx (by rw [show pp - s - m=nn - s - m - 1 by omega];exact hy);simpa using this
  ·intro k1 k2 x y hx hy;have:s0<s:=by omega
   have:=h3 this x y (by rw [show s - 1 - a=s - a - 1 by omega];exact hx) (by rw [show pp - (s - 1) - m=nn - s - m by omega];exact hy);simpa using this
 generalize hall:P++(X++(Y++Q))=all at gX gY hal;simp [w1,w2,n1,n2,wh,w3,w4,hall];refine aW.join (fun fr h'=>fr 0= .own b 0 N∧fr 1= .int .i64 a∧fr 2= .int .i64 m∧fr 3= .int .i64 z∧fr 4= .fn (.func f) [] caps∧fr 18= .int .i64 mid∧fr 19= .int .i64 nn∧fr 20= .int .i64 s0∧fr 21= .int .i64 r0∧fr 22= .int .i64 pp∧h'=h.set b (.cells 5 all)) (fun hp=> ?_) (fun hq=> ?_) ?_
 ·rcases hbr with⟨_,hs0,hr0,w5⟩ | ⟨hbr,_⟩
  ·exact⟨by simp,by simp,by simp,by simp,by simp,by simp,by simp,by simp [w5],by simp [hr0],by simp,rfl⟩
  ·omega
 ·rcases hbr with⟨hbr,_⟩ | ⟨hbr,hs0,hr0⟩
  ·omega
  ·exact⟨by simp,by simp,by simp,by simp,by simp,by simp,by simp,by simp [hs0],by simp [hr0],by simp,rfl⟩
 clear hbr;rintro fr h' ⟨e0,e1,e2,e3,e4,e18,e19,e20,e21,e22,rfl⟩;refine aW.down mixed (fun k fr h'=> ∃i j:Nat,k=j - i∧s0≤i∧i≤j∧j≤r0∧fr 0= .own b 0 N∧fr 1= .int .i64 a∧fr 2= .int .i64 m∧fr 3= .int .i64 z∧fr 4= .fn (.func f) [] caps∧fr 18= .int .i64 mid∧fr 19= .int .i64 nn∧fr 20= .int .i64 i∧fr 21= .int .i64 j∧fr 22= .int .i64 pp∧
  (s0<i→ ∀x y,X[i - 1 - a]? =some x→Y[pp - (i - 1) - m]? =some y→0≤c y x)∧(j<r0→ ∀x y,X[j - a]? =some x→Y[pp - j - m]? =some y→c y x<0)∧h'=h.set b (.cells 5 all)) (r0 - s0) ⟨s0,r0,rfl,by omega,by omega,by omega,e0,e1,e2,e3,e4,e18,e19,e20,e21,e22,by omega,by omega,rfl⟩ ?_
 clear e0 e1 e2 e3 e4 e18 e19 e20 e21 e22;rintro k fr h' ⟨i,j,rfl,hmi,hij,hjb,e0,e1,e2,e3,e4,e18,e19,e20,e21,e22,hlo,hhi,rfl⟩;rcases zN i j with hlt | hge
 ·have wh:=ww (i:=i) (j:=j) (by omega);have ht1:i≤(i+j) / 2:=by omega
  have ht2:(i+j) / 2<j:=by omega
  generalize (i+j) / 2=t at wh ht1 ht2;obtain⟨k1,k2,k3,k4,k5⟩:=F3 t (by omega) (by omega);obtain⟨x,hx,hx'⟩:=aN (l:=X) (i:=t - a) (by omega);obtain⟨y,hy,hy'⟩:=aN (l:=Y) (i:=pp - t - m) (by omega);have hgx:=gX t x (by omega) (by omega) hx;have hgy:=gY (pp - t) y (by omega) (by omega) hy;have w6:IntKind.i64.wrap ((pp:Int) - t)=(pp - t:Nat):=by rw [aD (by omega) (by omega)];omega
  have hxS:x∈S:=hS x (by simp [zF hx]);have hyS:y∈S:=hS y (by simp [zF hy]);have hxO:=hn x hxS;have hx5:x.length=5:=hxO;have hyO:=hn y hyS;have hy5:y.length=5:=hyO;have tx:x.take 5=x:=zG (by omega);have ty:y.take 5=y:=zG (by omega);have ew:=aB (i:=t) (by omega);obtain⟨u,hu⟩: ∃u,pp - t=u:=⟨_,rfl⟩;rw [hu] at hgy w6;have hi0:(0:Int)≤u:=by omega
  simp [e0,e1,e2,e3,e4,e18,e19,e20,e21,e22,hlt,wh,w6,hgx,hgy,hb,hal,hx5,hy5];refine⟨by decide,by omega,by omega,?_⟩;rw [tx,ty];refine ay.pure _ (fun _=>hc y hyS x hxS _) ?_;simp [e0,e1,e2,e3,e4,e18,e19,e20,e21,e22,wh,ew];refine⟨fun hcy=>⟨j - (t+1),by omega,t+1,j,rfl,by omega,by omega,by omega,by omega,by omega,?_,hhi⟩,fun hcy=>⟨t - i,by omega,i,t,rfl,by omega,by omega,by omega,by omega,by omega,hlo,?_⟩⟩
  ·intro _ x' y' hx' hy';rw [show t+1 - 1=t by omega] at hx' hy';rw [hx] at hx';rw [hy] at hy'
   injection hx' with hx';injection hy' with hy'
   rw [←hx',←hy'];exact hcy
  ·intro _ x' y' hx' hy';rw [hx] at hx';rw [hy] at hy'
   injection hx' with hx';injection hy' with hy'
   rw [←hx',←hy'];exact hcy
 ·obtain rfl:i=j:=by omega
  have w7:IntKind.i64.wrap ((nn:Int) - i)=(nn - i:Nat):=by rw [aD (by omega) (by omega)];omega
  obtain⟨e,he⟩: ∃e,nn - i=e:=⟨_,rfl⟩;rw [he] at w7;obtain⟨cur2,cur3,hrot,hsame,hr1,hsame1,hr2,hsame2⟩:=Fp (gl:=gl) (h:=h) b hb N hl S hn f caps c o hc P X Y Q a m z hX hY sX sY ha hm hz hN hS n hXY ih mid nn i e hm1 hm2 hnn (by omega) (by omega) (by omega) (by omega) he (done i (by omega) (by omega) hlo hhi);rw [hall] at hrot hsame;clear hlo hhi done F3 gX gY ih hS hall sX sY hc;generalize P++(aT (fun x y=>decide (c x y<0)) (X++Y)++Q)=fin at*;by_cases c1:i<m∧m<e
  ·simp [e0,e1,e2,e3,e4,e18,e19,e20,e21,e22,w7,c1.1,c1.2];refine ay.any (hrot c1.1 c1.2) ?_;rintro v h' ⟨rfl,rfl⟩;by_cases c2:a<i∧i<mid
   ·simp [e0,e1,e2,e3,e4,e18,e19,e20,e21,e22,w7,c2.1,c2.2];refine ay.any (hr1 c2.1 c2.2) ?_;rintro v h' ⟨rfl,rfl⟩;by_cases c3:mid<e∧e<z
    ·simp [e0,e1,e2,e3,e4,e18,e19,e20,e21,e22,w7,c3.1,c3.2];refine ay.any (hr2 c3.1 c3.2) ?_;rintro v h' ⟨rfl,rfl⟩;simp
    ·simp [e0,e1,e2,e3,e4,e18,e19,e20,e21,e22,w7];exact⟨fun k1 k2=>absurd ⟨k1,k2⟩ c3,fun _=>by rw [hsame2 c3]⟩
   ·simp [e0,e1,e2,e3,e4,e18,e19,e20,e21,e22,w7];refine⟨fun k1 k2=>absurd ⟨k1,k2⟩ c2,fun _=> ?_⟩;rw [hsame1 c2];refine⟨fun k1 k2=> ?_,fun k=>by rw [hsame2 (fun hh=>by have:=k hh.1;omega)]⟩;refine ay.any (hr2 k1 k2) ?_;rintro v h' ⟨rfl,rfl⟩;simp
  ·simp [e0,e1,e2,e3,e4,e18,e19,e20,e21,e22,w7];refine⟨fun k1 k2=>absurd ⟨k1,k2⟩ c1,fun _=> ?_⟩;rw [hsame c1];refine⟨fun k1 k2=> ?_,fun k=> ?_⟩
   ·refine ay.any (hr1 k1 k2) ?_;rintro v h' ⟨rfl,rfl⟩;simp [e0,e1,e2,e3,e4,e18,e19,e20,e21,e22,w7];refine⟨fun k1 k2=> ?_,fun k=>by rw [hsame2 (fun hh=>by have:=k hh.1;omega)]⟩;refine ay.any (hr2 k1 k2) ?_;rintro v h' ⟨rfl,rfl⟩;simp
   ·rw [hsame1 (fun hh=>by have:=k hh.1;omega)];refine⟨fun k1 k2=> ?_,fun k=>by rw [hsame2 (fun hh=>by have:=k hh.1;omega)]⟩;refine ay.any (hr2 k1 k2) ?_;rintro v h' ⟨rfl,rfl⟩;simp
theorem wW (b:Nat)(hb:b<h.length)(N:Nat)(hl:N≤1000000)(S:List (List AV))(hn: ∀e∈S,e.length=5)(f:FuncId)(caps:List AV)(c:List AV→List AV→Int)(o:SWO (fun x y=>decide (c x y<0)))
  (hc: ∀x∈S,∀y∈S,∀o,af Tryz.prog gl f (.agg x:: .agg y::caps) (h.set b o) fun v h'=>v= .int .i64 (c x y)∧h'=h.set b o): ∀(n:Nat) (P X Y Q:List (List AV)) (a m z:Nat),X.length+Y.length≤n→0<X.length→0<Y.length→
  qz (fun x y=>decide (c x y<0)) X→qz (fun x y=>decide (c x y<0)) Y→P.length=a→a+X.length=m→m+Y.length=z→N=z+Q.length→(∀e∈P++(X++(Y++Q)),e∈S)→
  af Tryz.prog gl 136 [.own b 0 N,.int .i64 a,.int .i64 m,.int .i64 z,.fn (.func f) [] caps] (h.set b (.cells 5 (P++(X++(Y++Q)))))
   fun v h'=>v= .tup []∧h'=h.set b (.cells 5 (P++(aT (fun x y=>decide (c x y<0)) (X++Y)++Q))):=by
 intro n
 induction n with
 | zero=>intro P X Y Q a m z h1 h2;omega
 | succ n ih=>
  intro P X Y Q a m z hXY hX hY sX sY ha hm hz hN hS;by_cases hX1:X.length=1
  ·exact Fh b hb N hl S hn f caps c o hc P X Y Q a m z hX1 hY sX sY ha hm hz hN hS
  by_cases hY1:Y.length=1
  ·exact Fj b hb N hl S hn f caps c o hc P X Y Q a m z hX1 hX hY1 sX sY ha hm hz hN hS
  exact Fg b hb N hl S hn f caps c o hc n ih P X Y Q a m z hXY hX1 hY1 hX hY sX sY ha hm hz hN hS
theorem nu (b:Nat)(P X Q:List (List AV))(a z N:Nat)(hP:P.length=a)(hz:a+X.length=z)(hN:N=z+Q.length)(hl:N≤1000000)(hb:b<h.length)(S:List (List AV))(hn: ∀e∈S,e.length=5)(hS: ∀e∈P++(X++Q),e∈S)(f:FuncId)(caps:List AV)(c:List AV→List AV→Int)
  (hc: ∀x∈S,∀y∈S,∀o,af Tryz.prog gl f (.agg x:: .agg y::caps) (h.set b o) fun v h'=>v= .int .i64 (c x y)∧h'=h.set b o):
  af Tryz.prog gl 135 [.own b 0 N,.int .i64 a,.int .i64 z,.fn (.func f) [] caps] (h.set b (.cells 5 (P++(X++Q))))
   fun v h'=>v= .tup []∧h'=h.set b (.cells 5 (P++(aT (fun x y=>decide (c x y<0)) X++Q))):=by
 have hlen:(P++X++Q).length=N:=by simp;omega
 have:=xw (gl:=gl) (h:=h) b P X Q hb (fun e he=>hn e (hS e (by simpa using he))) (by omega) f caps c (fun x hx y hy o=>hc x (hS x (by simp [hx])) y (hS y (by simp [hy])) o);rw [hlen,hP,hz] at this;simpa using this
set_option maxHeartbeats 4000000 in
theorem Ms (b:Nat)(seg:List (List AV))(N:Nat)(hN:seg.length=N)(hl:N≤400000)(hb:b<h.length)(hn: ∀e∈seg,e.length=5)(f:FuncId)(caps:List AV)(c:List AV→List AV→Int)(o:SWO (fun x y=>decide (c x y<0)))
  (hc: ∀x∈seg,∀y∈seg,∀o,af Tryz.prog gl f (.agg x:: .agg y::caps) (h.set b o) fun v h'=>v= .int .i64 (c x y)∧h'=h.set b o):
  af Tryz.prog gl 102 [.own b 0 N,.int .i64 N,.fn (.func f) [] caps] (h.set b (.cells 5 seg))
   fun v h'=>v= .tup []∧h'=h.set b (.cells 5 (aT (fun x y=>decide (c x y<0)) seg)):=by
 refine af.body Tryz.f102 _ mixed Tryz.func102 rfl rfl (by simp [Tryz.ntmps102]) ?_;simp;refine aW.up mixed N (fun k fr h'=> ∃p q:Nat,p=20*k∧q=20*k+20∧p≤N∧fr 0= .own b 0 N∧fr 1= .int .i64 N∧fr 2= .fn (.func f) [] caps∧fr 6= .int .i64 (20:Nat)∧fr 7= .int .i64 p∧fr 8= .int .i64 q∧
  h'=h.set b (.cells 5 (BJ (fun x y=>decide (c x y<0)) 20 seg k++seg.drop (20*k)))) 0 (by omega) ⟨0,20,by omega,by omega,by omega,by simp,by simp,by simp,by simp,by simp,by simp,by simp [BJ]⟩ ?_
 rintro k fr h' hk ⟨p,q,hp,hq,hpN,e0,e1,e2,e6,e7,e8,rfl⟩;have hhl:(BJ (fun x y=>decide (c x y<0)) 20 seg k).length=p:=by rw [xm (by omega),hp]
 rcases zN N q with hlt | hge
 ·have n1: ¬q≤N:=by omega
  simp [e0,e1,e2,e6,e7,e8,n1];have:=nu (gl:=gl) (h:=h) b (BJ (fun x y=>decide (c x y<0)) 20 seg k) (seg.drop (20*k)) [] p N N hhl (by simp;omega) (by simp) (by omega) hb seg hn (fun e he=>by
   simp at he;rcases he with he | he
   ·exact Cq he
   ·exact List.mem_of_mem_drop he) f caps c hc
  simp at this;refine ay.any this ?_;rintro v h' ⟨rfl,rfl⟩;rw [K4 (by omega) (by simp;omega)];simp [e0,e1,e2,e6,e7,e8];refine aW.down mixed (fun k fr h'=> ∃B:Nat,k=N - B∧0<B∧B≤N+N+20∧fr 0= .own b 0 N∧fr 1= .int .i64 N∧fr 2= .fn (.func f) [] caps∧fr 6= .int .i64 B∧h'=h.set b (.cells 5 (GZ (fun x y=>decide (c x y<0)) B seg))) (N - 20) ⟨20,rfl,by omega,by omega,by simp [e0],by simp [e1],by simp [e2],by simp [e6],rfl⟩ ?_;clear this e0 e1 e2 e6 e7 e8 hhl;rintro k fr h' ⟨B,rfl,hB,hBN,e0,e1,e2,e6,rfl⟩;rcases zN B N with hlt2 | hge2
  ·have w1:IntKind.i64.wrap (2*(B:Int))=(2*B:Nat):=by rw [aD (by omega) (by omega)];omega
   obtain⟨B2,hB2⟩: ∃B2,2*B=B2:=⟨_,rfl⟩;rw [hB2] at w1;simp [e0,e1,e2,e6,hlt2,w1];refine aW.down mixed (fun d fr h'=> ∃k p q:Nat,d=N - p∧p=B2*k∧q=p+B2∧p≤N∧fr 0= .own b 0 N∧fr 1= .int .i64 N∧fr 2= .fn (.func f) [] caps∧fr 6= .int .i64 B∧fr 7= .int .i64 p∧fr 8= .int .i64 q∧
    h'=h.set b (.cells 5 (BJ (fun x y=>decide (c x y<0)) B2 seg k++GZ (fun x y=>decide (c x y<0)) B (seg.drop (B2*k))))) N ⟨0,0,B2,by omega,by omega,by omega,by omega,by simp [e0],by simp [e1],by simp [e2],by simp [e6],by simp,by simp,by simp [BJ]⟩ ?_
   clear e0 e1 e2 e6;rintro d fr h' ⟨k,p,q,rfl,hp,hq,hpN,e0,e1,e2,e6,e7,e8,rfl⟩;have hhl:(BJ (fun x y=>decide (c x y<0)) B2 seg k).length=p:=by rw [xm (by omega),hp]
   have w2:IntKind.i64.wrap ((p:Int)+B)=(p+B:Nat):=by rw [aD (by omega) (by omega)];omega
   obtain⟨m,hm⟩: ∃m,p+B=m:=⟨_,rfl⟩;rw [hm] at w2;have hmh: ∀e,e∈BJ (fun x y=>decide (c x y<0)) B2 seg k→e∈seg:=fun e he=>Cq he;rcases zN N q with hlt3 | hge3
   ·have n1: ¬q≤N:=by omega
    have hrl:(seg.drop (B2*k)).length=N - p:=by simp;omega
    have hfin:BJ (fun x y=>decide (c x y<0)) B2 seg k++aT (fun x y=>decide (c x y<0)) (seg.drop (B2*k))=GZ (fun x y=>decide (c x y<0)) B2 seg:=K4 (by omega) (by omega);have w3:IntKind.i64.wrap ((B:Int)*2)=B2:=by rw [aD (by omega) (by omega)];omega
    have hmr: ∀e,e∈seg.drop (B2*k)→e∈seg:=fun e he=>List.mem_of_mem_drop he;generalize BJ (fun x y=>decide (c x y<0)) B2 seg k=H at*;generalize seg.drop (B2*k)=R at*;rcases zN m N with hlt4 | hge4
    ·simp [e0,e1,e2,e6,e7,e8,n1,w2,hlt4];have hl1:(R.take B).length=B:=by simp;omega
     have hl2:(R.drop B).length=N - m:=by simp;omega
     have:=wW (gl:=gl) (h:=h) b hb N (by omega) seg hn f caps c o hc (B+N) H (aT (fun x y=>decide (c x y<0)) (R.take B)) (aT (fun x y=>decide (c x y<0)) (R.drop B)) [] p m N (by simp only [bI];omega) (by simp only [bI];omega) (by simp only [bI];omega) (fu o _) (fu o _) hhl (by simp only [bI];omega) (by simp only [bI];omega) (by simp) (fun e he=>by
      simp [dW] at he;rcases he with he | he | he
      ·exact hmh e he
      ·exact hmr e (List.mem_of_mem_take he)
      ·exact hmr e (List.mem_of_mem_drop he))
     rw [Ao o,List.take_append_drop,List.append_nil,List.append_nil,hfin] at this;rw [xh hB,Ci hB (show (R.drop B).length≤B by omega)];refine ay.any this ?_;rintro v h' ⟨rfl,rfl⟩;simp [e0,e1,e2,e6,w3,w1];exact⟨N - B2,by omega,B2,rfl,by omega,by omega,rfl,rfl⟩
    ·have n2: ¬m<N:=by omega
     simp [e0,e1,e2,e6,e7,e8,n1,w2,n2,w3,w1];exact⟨N - B2,by omega,B2,rfl,by omega,by omega,rfl,by rw [Ci hB (by omega),hfin]⟩
   ·simp [e0,e1,e2,e6,e7,e8,hge3,w2];have hrl:(seg.drop (B2*k)).length=N - p:=by simp;omega
    have hnx:BJ (fun x y=>decide (c x y<0)) B2 seg (k+1)=BJ (fun x y=>decide (c x y<0)) B2 seg k++aT (fun x y=>decide (c x y<0)) ((seg.drop (B2*k)).take B2):=rfl;have hdr:seg.drop (B2*(k+1))=(seg.drop (B2*k)).drop B2:=by rw [List.drop_drop,Nat.mul_succ]
    have hkk:B2*(k+1)=q:=by rw [Nat.mul_succ];omega
    have hmr: ∀e,e∈seg.drop (B2*k)→e∈seg:=fun e he=>List.mem_of_mem_drop he;have w4:IntKind.i64.wrap ((q:Int)+B2)=(q+B2:Nat):=by rw [aD (by omega) (by omega)];omega
    generalize BJ (fun x y=>decide (c x y<0)) B2 seg k=H at*;generalize seg.drop (B2*k)=R at*;have hl1:(R.take B).length=B:=by simp;omega
    have hl2:((R.drop B).take B).length=B:=by simp;omega
    have hl3:(GZ (fun x y=>decide (c x y<0)) B (R.drop B2)).length=N - q:=by rw [Dk hB _ _ (Nat.le_refl _)];simp;omega
    have:=wW (gl:=gl) (h:=h) b hb N (by omega) seg hn f caps c o hc (B+B) H (aT (fun x y=>decide (c x y<0)) (R.take B)) (aT (fun x y=>decide (c x y<0)) ((R.drop B).take B)) (GZ (fun x y=>decide (c x y<0)) B (R.drop B2)) p m q (by simp only [bI];omega) (by simp only [bI];omega) (by simp only [bI];omega) (fu o _) (fu o _) hhl (by simp only [bI];omega) (by simp only [bI];omega) (by rw [hl3];omega) (fun e he=>by
      simp only [List.mem_append,dW,Pz hB _ _ (Nat.le_refl _)] at he;rcases he with he | he | he | he
      ·exact hmh e he
      ·exact hmr e (List.mem_of_mem_take he)
      ·exact hmr e (List.mem_of_mem_drop (List.mem_of_mem_take he))
      ·exact hmr e (List.mem_of_mem_drop he))
    rw [Ri o,hB2] at this;rw [UM hB,hB2];refine ay.any this ?_;rintro v h' ⟨rfl,rfl⟩;simp [e0,e1,e2,e6,e7,e8,w1,w4];refine⟨N - q,by omega,k+1,q,rfl,hkk.symm,hge3,rfl,?_⟩;rw [hnx,hdr];simp
  ·have n1: ¬B<N:=by omega
   simp [e0,e1,e2,e6,n1];rw [Ci hB (by omega)]
 ·simp [e0,e1,e2,e6,e7,e8,hge];have hl1:((seg.drop (20*k)).take 20).length=20:=by simp;omega
  have hdr:seg.drop (20*k)=(seg.drop (20*k)).take 20++seg.drop (20*(k+1)):=by
   have:=(List.take_append_drop 20 (seg.drop (20*k))).symm;rw [List.drop_drop] at this;rwa [Nat.mul_succ]
  have:=nu (gl:=gl) (h:=h) b (BJ (fun x y=>decide (c x y<0)) 20 seg k) ((seg.drop (20*k)).take 20) (seg.drop (20*(k+1))) p q N hhl (by omega) (by simp;omega) (by omega) hb seg hn (fun e he=>by
   simp only [List.mem_append] at he;rcases he with he | he | he
   ·exact Cq he
   ·exact List.mem_of_mem_drop (List.mem_of_mem_take he)
   ·exact List.mem_of_mem_drop he) f caps c hc
  rw [←hdr] at this;refine ay.any this ?_;rintro v h' ⟨rfl,rfl⟩;have w4:IntKind.i64.wrap ((q:Int)+20)=(q+20:Nat):=by rw [aD (by omega) (by omega)];omega
  simp [e0,e1,e2,e6,e7,e8,w4];refine⟨k+1,by omega,by omega,by omega,by omega,?_⟩;simp [BJ]
theorem BG (b:Nat)(seg:List (List AV))(N:Nat)(hN:seg.length=N)(hl:N≤400000)(hb:b<h.length)(hn: ∀e∈seg,e.length=5)(f:FuncId)(caps:List AV)(c:List AV→List AV→Int)(o:SWO (fun x y=>decide (c x y<0)))
  (hc: ∀x∈seg,∀y∈seg,∀o,af Tryz.prog gl f (.agg x:: .agg y::caps) (h.set b o) fun v h'=>v= .int .i64 (c x y)∧h'=h.set b o):
  af Tryz.prog gl 68 [.own b 0 N,.fn (.func f) [] caps] (h.set b (.cells 5 seg))
   fun v h'=>v= .tup []∧h'=h.set b (.cells 5 (aT (fun x y=>decide (c x y<0)) seg)):=by
 refine af.body Tryz.f68 _ mixed Tryz.func68 rfl rfl (by simp [Tryz.ntmps68]) ?_;simp;refine ay.any (Ms b seg N hN hl hb hn f caps c o hc) ?_;rintro v h' ⟨rfl,rfl⟩;simp
theorem yD (b:Nat)(pre seg post:List (List AV))(hb:b<h.length)(hn: ∀e∈pre++seg++post,e.length=2)(hl:(pre++seg++post).length≤1000000)(f:FuncId)(caps:List AV)(c:List AV→List AV→Int)
  (hc: ∀x∈seg,∀y∈seg,∀o,af Tryz.prog gl f (.agg x:: .agg y::caps) (h.set b o) fun v h'=>v= .int .i64 (c x y)∧h'=h.set b o):
  af Tryz.prog gl 137 [.own b 0 (pre++seg++post).length,.int .i64 pre.length,.int .i64 (pre.length+seg.length:Nat),.fn (.func f) [] caps] (h.set b (.cells 2 (pre++seg++post)))
   fun v h'=>v= .tup []∧h'=h.set b (.cells 2 (pre++aT (fun x y=>decide (c x y<0)) seg++post)):=by
 refine af.body Tryz.f137 _ mixed Tryz.func137 rfl rfl (by simp [Tryz.ntmps137]) ?_;have hl':pre.length+seg.length+post.length≤1000000:=by simpa [Nat.add_assoc] using hl
 have ew:=aB (i:=pre.length) (by omega);simp [ew];refine aW.up mixed (seg.length+1) (fun i fr h'=>fr 0= .own b 0 (pre++seg++post).length∧fr 1= .int .i64 pre.length∧fr 2= .int .i64 (pre.length+seg.length:Nat)∧fr 3= .fn (.func f) [] caps∧fr 8= .int .i64 (pre.length+i:Nat)∧1≤i∧
  h'=h.set b (.cells 2 (pre++(aT (fun x y=>decide (c x y<0)) (seg.take i)++seg.drop i)++post))) 1 (by omega) ⟨by simp,by simp,by simp,by simp,by simp,by omega,?_⟩ ?_
 ·cases seg with
  | nil=>simp [aT]
  | cons x seg=>simp [aT,gV,gz]
 rintro i fr h' hi ⟨e0,e1,e2,e3,e8,h1i,rfl⟩;rcases zN i seg.length with hlt | hge
 ·obtain⟨x,hg,hg'⟩:=aN hlt;have hlt2:((pre.length:Int)+i)<pre.length+seg.length:=by omega
  simp [e0,e1,e2,e3,e8,hlt,hlt2];have hil:(aT (fun x y=>decide (c x y<0)) (seg.take i)).length=i:=by rw [bI];simp;omega
  generalize hL:aT (fun x y=>decide (c x y<0)) (seg.take i)=L at hil;refine aW.down mixed (fun j fr h'=>fr 0= .own b 0 (pre++seg++post).length∧fr 1= .int .i64 pre.length∧fr 2= .int .i64 (pre.length+seg.length:Nat)∧fr 3= .fn (.func f) [] caps∧fr 8= .int .i64 (pre.length+i:Nat)∧fr 9= .int .i64 (pre.length+j:Nat)∧j≤i∧
   gz (fun x y=>decide (c x y<0)) x L i=gz (fun x y=>decide (c x y<0)) x L j∧
   ∃all,h'=h.set b (.cells 2 all)∧all=sinkB pre L (seg.drop (i+1)++post) x j) i ⟨by simp [e0],by simp [e1],by simp [e2],by simp [e3],by simp [e8],by simp,by omega,rfl,_,rfl,?_⟩ ?_
  ·rw [bF hg];simp [sinkB,←hil]
  rintro j fr h' ⟨e0,e1,e2,e3,e8,e9,hj,hK,all,rfl,hall⟩;have hal:all.length=pre.length+seg.length+post.length:=by rw [hall,nR];simp;omega
  rcases Nat.eq_zero_or_pos j with rfl | hpos
  ·simp [e0,e1,e2,e3,e8,e9,hb];refine⟨by decide,ay.pure (.int .i64 0) (fun hg=>by cases hg) ?_⟩;have ewi:=aB (i:=pre.length+i) (by omega);simp at ewi;simp [e0,e1,e2,e3,e8,e9,ewi];refine⟨i+1,by omega,by omega,by simp;omega,?_⟩;rw [gG _ hg,hL,hall,gV,hil,hK];simp [sinkB,gz]
  obtain⟨k,rfl⟩: ∃k,j=k+1:=⟨j - 1,by omega⟩;have hgx:=J7 (pre:=pre) (l:=L) (post:=seg.drop (i+1)++post) (x:=x) (j:=k+1) (by omega);have hgy:=J8 (pre:=pre) (l:=L) (post:=seg.drop (i+1)++post) (x:=x) (j:=k) (by omega);obtain⟨y,hy,hy'⟩:=aN (l:=L) (i:=k) (by omega);rw [←hall] at hgx hgy;rw [hy] at hgy;have e9':fr 9= .int .i64 (pre.length+k+1:Nat):=e9;have hgx':all[pre.length+k+1]? =some x:=hgx;have hsw:=xP (pre:=pre) (post:=seg.drop (i+1)++post) (x:=x) hy;rw [←hall] at hsw;have hsw':(all.set (pre.length+k+1) y).set (pre.length+k) x=sinkB pre L (seg.drop (i+1)++post) x k:=hsw;generalize hp:pre.length+k=p at e9' hgx' hgy hsw';clear hgx e9 hsw;have p1:((pre.length:Int))<p+1:=by omega
  have p2:p+1<all.length:=by omega
  have wp:IntKind.i64.wrap (p:Int)=p:=aD (by omega) (by omega);have hxO:=hn x (by simp [zF hg]);have hx5:x.length=2:=hxO;have hys:y∈seg:=List.mem_of_mem_take ((dW _).1 (hL▸zF hy));have hxs:x∈seg:=zF hg;have hyO:=hn y (by simp [hys]);have hy5:y.length=2:=hyO;simp [e0,e1,e2,e3,e8,e9',hgx',hgy,p1,hb,wp];refine⟨by decide,⟨by omega,by omega,by omega⟩,⟨by omega,by omega⟩,⟨by omega,by omega⟩,⟨by omega,by omega⟩,?_⟩;rw [zG (by omega),zG (by omega)];refine ay.pure _ (fun _=>hc x hxs y hys _) ?_;have tx:x.take 2=x:=zG (by omega);have ty:y.take 2=y:=zG (by omega);have dx:x.drop 2=[]:=zH (by omega);have dy:y.drop 2=[]:=zH (by omega);have ewi:=aB (i:=pre.length+i) (by omega);simp at ewi;simp [e0,e1,e2,e3,e8,e9',hgx',hgy,p1,hb,wp,hx5,hy5,tx,ty,dx,dy,hsw',ewi];refine⟨fun hlt0=>⟨by decide,?_⟩,fun hge0=>⟨i+1,by omega,by omega,by simp;omega,by omega,?_⟩⟩
  ·repeat refine And.intro (by omega) ?_
   refine⟨k,by omega,by omega,by omega,?_,rfl⟩;rw [hK,gz,hy];simp [hlt0]
  ·have hk2:gz (fun x y=>decide (c x y<0)) x L i=k+1:=by
    rw [hK,gz,hy];simp [show ¬c x y<0 by omega]
   rw [gG _ hg,hL,hall,gV,hil,hk2];simp [sinkB]
 ·have hge2: ¬((pre.length:Int)+i)<pre.length+seg.length:=by omega
  simp [e0,e1,e2,e3,e8,hge2];rw [zG (by omega),zH (by omega)];rfl
theorem Ke (b:Nat)(seg:List (List AV))(hb:b<h.length)(hn: ∀e∈seg,e.length=2)(hl:seg.length<20)(f:FuncId)(caps:List AV)(c:List AV→List AV→Int)
  (hc: ∀x∈seg,∀y∈seg,∀o,af Tryz.prog gl f (.agg x:: .agg y::caps) (h.set b o) fun v h'=>v= .int .i64 (c x y)∧h'=h.set b o):
  af Tryz.prog gl 105 [.own b 0 seg.length,.int .i64 seg.length,.fn (.func f) [] caps] (h.set b (.cells 2 seg))
   fun v h'=>v= .tup []∧h'=h.set b (.cells 2 (aT (fun x y=>decide (c x y<0)) seg)):=by
 refine af.body Tryz.f105 _ mixed Tryz.func105 rfl rfl (by simp [Tryz.ntmps105]) ?_;have h1: ¬(20:Int)≤seg.length:=by omega
 have h2: ¬(20:Int)<seg.length:=by omega
 simp;refine aW.up mixed 0 (fun i fr h'=>fr 0= .own b 0 seg.length∧fr 1= .int .i64 seg.length∧fr 2= .fn (.func f) [] caps∧fr 6= .int .i64 20∧fr 7= .int .i64 0∧fr 8= .int .i64 20∧h'=h.set b (.cells 2 seg)) 0 (by omega) ⟨by simp,by simp,by simp,by simp,by simp,by simp,rfl⟩ ?_;rintro i fr h' hi ⟨e0,e1,e2,e6,e7,e8,rfl⟩;simp [e0,e1,e2,e6,e7,e8,h1];have:=yD (gl:=gl) b [] seg [] hb (by simpa using hn) (by simp;omega) f caps c hc;simp at this;refine ay.any this ?_;rintro v h' ⟨rfl,rfl⟩;simp [e0,e1,e2,e6,e7,e8];refine aW.up mixed 0 (fun i fr h'=>fr 1= .int .i64 seg.length∧fr 6= .int .i64 20∧h'=h.set b (.cells 2 (aT (fun x y=>decide (c x y<0)) seg))) 0 (by omega) ⟨by simp [e1],by simp [e6],rfl⟩ ?_;rintro i fr h' hi ⟨e1,e6,rfl⟩;simp [e1,e6,h2]
theorem zo (b:Nat)(seg:List (List AV))(hb:b<h.length)(hn: ∀e∈seg,e.length=2)(hl:seg.length<20)(f:FuncId)(caps:List AV)(c:List AV→List AV→Int)
  (hc: ∀x∈seg,∀y∈seg,∀o,af Tryz.prog gl f (.agg x:: .agg y::caps) (h.set b o) fun v h'=>v= .int .i64 (c x y)∧h'=h.set b o):
  af Tryz.prog gl 73 [.own b 0 seg.length,.fn (.func f) [] caps] (h.set b (.cells 2 seg))
   fun v h'=>v= .tup []∧h'=h.set b (.cells 2 (aT (fun x y=>decide (c x y<0)) seg)):=by
 refine af.body Tryz.f73 _ mixed Tryz.func73 rfl rfl (by simp [Tryz.ntmps73]) ?_;simp;refine ay.any (Ke b seg hb hn hl f caps c hc) ?_;rintro v h' ⟨rfl,rfl⟩;simp
theorem tO (f:FuncId)(caps:List AV):
  af Tryz.prog gl 137 [.nil,.int .i64 0,.int .i64 0,.fn (.func f) [] caps] h fun v h'=>v= .tup []∧h'=h:=by
 refine af.body Tryz.f137 _ mixed Tryz.func137 rfl rfl (by simp [Tryz.ntmps137]) ?_;simp;refine aW.up mixed 0 (fun i fr h'=>fr 2= .int .i64 0∧fr 8= .int .i64 (IntKind.i64.wrap 1)∧h'=h) 0 (by omega) ⟨by simp,by simp,rfl⟩ ?_;rintro i fr h' hi ⟨e2,e8,rfl⟩;simp [e2,e8,aD]
theorem Fb (f:FuncId)(caps:List AV):
  af Tryz.prog gl 105 [.nil,.int .i64 0,.fn (.func f) [] caps] h fun v h'=>v= .tup []∧h'=h:=by
 refine af.body Tryz.f105 _ mixed Tryz.func105 rfl rfl (by simp [Tryz.ntmps105]) ?_;simp;refine aW.up mixed 0 (fun i fr h'=>fr 0= .nil∧fr 1= .int .i64 0∧fr 2= .fn (.func f) [] caps∧fr 6= .int .i64 20∧fr 7= .int .i64 0∧fr 8= .int .i64 20∧h'=h) 0 (by omega) ⟨by simp,by simp,by simp,by simp,by simp,by simp,rfl⟩ ?_;rintro i fr h' hi ⟨e0,e1,e2,e6,e7,e8,rfl⟩;simp [e0,e1,e2,e6,e7,e8];refine ay.pure _ (fun _=>tO f caps) ?_;simp [e0,e1,e2,e6,e7,e8];refine aW.up mixed 0 (fun i fr h''=>fr 1= .int .i64 0∧fr 6= .int .i64 20∧h''=h') 0 (by omega) ⟨by simp [e1],by simp [e6],rfl⟩ ?_;rintro i fr h' hi ⟨e1,e6,rfl⟩;simp [e1,e6]
theorem wZ (f:FuncId)(caps:List AV):
  af Tryz.prog gl 73 [.nil,.fn (.func f) [] caps] h fun v h'=>v= .tup []∧h'=h:=by
 refine af.body Tryz.f73 _ mixed Tryz.func73 rfl rfl (by simp [Tryz.ntmps73]) ?_;simp;refine ay.pure _ (fun _=>Fb f caps) ?_;simp
end Go.Proofs.YtkpioblbeiaefaaGreat
