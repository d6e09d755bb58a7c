/- Part 23 of the lemmas below the statements of this seat: SortTrip, MergeTrip, SymmATrip, SymmTrip. -/
import Derived.Test.YtkpioblbeiaefaaGreatPr05
set_option linter.unusedSectionVars false
set_option linter.unusedVariables false
set_option linter.unusedSimpArgs false
set_option linter.unnecessarySimpa false
set_option maxRecDepth 100000
namespace Go.Proofs.YtkpioblbeiaefaaGreat
open Go Go.Abs Go.Toll
variable {gl : aM} {h : af}
theorem vJ (b:Nat)(pre seg post:List (List AV))(hb:b<h.length)(hn: ∀e∈pre++seg++post,e.length=5)(hl:(pre++seg++post).length≤1000000)(f:FuncId)(caps:List AV)(c:List AV→List AV→Int)
  (hc: ∀x∈seg,∀y∈seg,∀o,aa Tryz.prog gl f (.agg x:: .agg y::caps) (h.set b o) fun v h'=>v= .int .i64 (c x y)∧h'=h.set b o):
  aa Tryz.prog gl 135 [.own b 0 (pre++seg++post).length,.int .i64 pre.length,.int .i64 (pre.length+seg.length:Nat),.fn (.func f) [] caps] (h.set b (.cells 5 (pre++seg++post)))
   fun v h'=>v= .tup []∧h'=h.set b (.cells 5 (pre++aQ (fun x y=>decide (c x y<0)) seg++post)):=by
 refine aa.body Tryz.f135 _ mixed Tryz.func135 rfl rfl (by simp [Tryz.ntmps135]) ?_;have hl':pre.length+seg.length+post.length≤1000000:=by simpa [Nat.add_assoc] using hl
 have ew:=aB (i:=pre.length) (by omega);simp [ew];refine aT.up mixed (seg.length+1) (fun i fr h'=>fr 0= .own b 0 (pre++seg++post).length∧fr 1= .int .i64 pre.length∧fr 2= .int .i64 (pre.length+seg.length:Nat)∧fr 3= .fn (.func f) [] caps∧fr 8= .int .i64 (pre.length+i:Nat)∧1≤i∧
  h'=h.set b (.cells 5 (pre++(aQ (fun x y=>decide (c x y<0)) (seg.take i)++seg.drop i)++post))) 1 (by omega) ⟨by simp,by simp,by simp,by simp,by simp,by omega,?_⟩ ?_
 ·cases seg with
  | nil=>simp [aQ]
  | cons x seg=>simp [aQ,iQ,fM]
 rintro i fr h' hi ⟨e0,e1,e2,e3,e8,h1i,rfl⟩;rcases zN i seg.length with hlt | hge
 ·obtain⟨x,hg,hg'⟩:=aJ hlt;have hlt2:((pre.length:Int)+i)<pre.length+seg.length:=by omega
  simp [e0,e1,e2,e3,e8,hlt,hlt2];have hil:(aQ (fun x y=>decide (c x y<0)) (seg.take i)).length=i:=by rw [bz];simp;omega
  generalize hL:aQ (fun x y=>decide (c x y<0)) (seg.take i)=L at hil;refine aT.down mixed (fun j fr h'=>fr 0= .own b 0 (pre++seg++post).length∧fr 1= .int .i64 pre.length∧fr 2= .int .i64 (pre.length+seg.length:Nat)∧fr 3= .fn (.func f) [] caps∧fr 8= .int .i64 (pre.length+i:Nat)∧fr 9= .int .i64 (pre.length+j:Nat)∧j≤i∧
   fM (fun x y=>decide (c x y<0)) x L i=fM (fun x y=>decide (c x y<0)) x L j∧
   ∃all,h'=h.set b (.cells 5 all)∧all=sinkB pre L (seg.drop (i+1)++post) x j) i ⟨by simp [e0],by simp [e1],by simp [e2],by simp [e3],by simp [e8],by simp,by omega,rfl,_,rfl,?_⟩ ?_
  ·rw [bq hg];simp [sinkB,←hil]
  rintro j fr h' ⟨e0,e1,e2,e3,e8,e9,hj,hK,all,rfl,hall⟩;have hal:all.length=pre.length+seg.length+post.length:=by rw [hall,mR];simp;omega
  rcases Nat.eq_zero_or_pos j with rfl | hpos
  ·simp [e0,e1,e2,e3,e8,e9,hb];refine⟨by decide,ax.pure (.int .i64 0) (fun hg=>by cases hg) ?_⟩;have ewi:=aB (i:=pre.length+i) (by omega);simp at ewi;simp [e0,e1,e2,e3,e8,e9,ewi];refine⟨i+1,by omega,by omega,by simp;omega,?_⟩;rw [eY _ hg,hL,hall,iQ,hil,hK];simp [sinkB,fM]
  obtain⟨k,rfl⟩: ∃k,j=k+1:=⟨j - 1,by omega⟩;have hgx:=H8 (pre:=pre) (l:=L) (post:=seg.drop (i+1)++post) (x:=x) (j:=k+1) (by omega);have hgy:=H9 (pre:=pre) (l:=L) (post:=seg.drop (i+1)++post) (x:=x) (j:=k) (by omega);obtain⟨y,hy,hy'⟩:=aJ (l:=L) (i:=k) (by omega);rw [←hall] at hgx hgy;rw [hy] at hgy;have e9':fr 9= .int .i64 (pre.length+k+1:Nat):=e9;have hgx':all[pre.length+k+1]? =some x:=hgx;have hsw:=wu (pre:=pre) (post:=seg.drop (i+1)++post) (x:=x) hy;rw [←hall] at hsw;have hsw':(all.set (pre.length+k+1) y).set (pre.length+k) x=sinkB pre L (seg.drop (i+1)++post) x k:=hsw;generalize hp:pre.length+k=p at e9' hgx' hgy hsw';clear hgx e9 hsw;have p1:((pre.length:Int))<p+1:=by omega
  have p2:p+1<all.length:=by omega
  have wp:IntKind.i64.wrap (p:Int)=p:=aC (by omega) (by omega);have hxO:=hn x (by simp [zF hg]);have hx5:x.length=5:=hxO;have hys:y∈seg:=List.mem_of_mem_take ((dB _).1 (hL▸zF hy));have hxs:x∈seg:=zF hg;have hyO:=hn y (by simp [hys]);have hy5:y.length=5:=hyO;simp [e0,e1,e2,e3,e8,e9',hgx',hgy,p1,hb,wp];refine⟨by decide,⟨by omega,by omega,by omega⟩,⟨by omega,by omega⟩,⟨by omega,by omega⟩,⟨by omega,by omega⟩,?_⟩;rw [zG (by omega),zG (by omega)];refine ax.pure _ (fun _=>hc x hxs y hys _) ?_;have tx:x.take 5=x:=zG (by omega);have ty:y.take 5=y:=zG (by omega);have dx:x.drop 5=[]:=zH (by omega);have dy:y.drop 5=[]:=zH (by omega);have ewi:=aB (i:=pre.length+i) (by omega);simp at ewi;simp [e0,e1,e2,e3,e8,e9',hgx',hgy,p1,hb,wp,hx5,hy5,tx,ty,dx,dy,hsw',ewi];refine⟨fun hlt0=>⟨by decide,?_⟩,fun hge0=>⟨i+1,by omega,by omega,by simp;omega,by omega,?_⟩⟩
  ·repeat refine And.intro (by omega) ?_
   refine⟨k,by omega,by omega,by omega,?_,rfl⟩;rw [hK,fM,hy];simp [hlt0]
  ·have hk2:fM (fun x y=>decide (c x y<0)) x L i=k+1:=by
    rw [hK,fM,hy];simp [show ¬c x y<0 by omega]
   rw [eY _ hg,hL,hall,iQ,hil,hk2];simp [sinkB]
 ·have hge2: ¬((pre.length:Int)+i)<pre.length+seg.length:=by omega
  simp [e0,e1,e2,e3,e8,hge2];rw [zG (by omega),zH (by omega)];rfl
theorem qo (f:FuncId)(caps:List AV):
  aa Tryz.prog gl 135 [.nil,.int .i64 0,.int .i64 0,.fn (.func f) [] caps] h fun v h'=>v= .tup []∧h'=h:=by
 refine aa.body Tryz.f135 _ mixed Tryz.func135 rfl rfl (by simp [Tryz.ntmps135]) ?_;simp;refine aT.up mixed 0 (fun i fr h'=>fr 2= .int .i64 0∧fr 8= .int .i64 (IntKind.i64.wrap 1)∧h'=h) 0 (by omega) ⟨by simp,by simp,rfl⟩ ?_;rintro i fr h' hi ⟨e2,e8,rfl⟩;simp [e2,e8,aC]
theorem Al (f:FuncId)(caps:List AV):
  aa Tryz.prog gl 102 [.nil,.int .i64 0,.fn (.func f) [] caps] h fun v h'=>v= .tup []∧h'=h:=by
 refine aa.body Tryz.f102 _ mixed Tryz.func102 rfl rfl (by simp [Tryz.ntmps102]) ?_;simp;refine aT.up mixed 0 (fun i fr h'=>fr 0= .nil∧fr 1= .int .i64 0∧fr 2= .fn (.func f) [] caps∧fr 6= .int .i64 20∧fr 7= .int .i64 0∧fr 8= .int .i64 20∧h'=h) 0 (by omega) ⟨by simp,by simp,by simp,by simp,by simp,by simp,rfl⟩ ?_;rintro i fr h' hi ⟨e0,e1,e2,e6,e7,e8,rfl⟩;simp [e0,e1,e2,e6,e7,e8];refine ax.pure _ (fun _=>qo f caps) ?_;simp [e0,e1,e2,e6,e7,e8];refine aT.up mixed 0 (fun i fr h''=>fr 1= .int .i64 0∧fr 6= .int .i64 20∧h''=h') 0 (by omega) ⟨by simp [e1],by simp [e6],rfl⟩ ?_;rintro i fr h' hi ⟨e1,e6,rfl⟩;simp [e1,e6]
theorem uG (f:FuncId)(caps:List AV):
  aa Tryz.prog gl 68 [.nil,.fn (.func f) [] caps] h fun v h'=>v= .tup []∧h'=h:=by
 refine aa.body Tryz.f68 _ mixed Tryz.func68 rfl rfl (by simp [Tryz.ntmps68]) ?_;simp;refine ax.pure _ (fun _=>Al f caps) ?_;simp
set_option maxHeartbeats 1000000 in
theorem nI (b:Nat)(P U M V Q:List (List AV))(p q n N:Nat)(hp:P.length=p)(hq:p+U.length+M.length=q)(hU:U.length=n)(hV:V.length=n)(hN:N=q+V.length+Q.length)(hl:N≤1000000)
  (hb:b<h.length) (hn: ∀e∈P++(U++(M++(V++Q))),e.length=5) (f:FuncId) (caps:List AV):
  aa Tryz.prog gl 181 [.own b 0 N,.int .i64 p,.int .i64 q,.int .i64 n,.fn (.func f) [] caps] (h.set b (.cells 5 (P++(U++(M++(V++Q))))))
   fun v h'=>v= .tup []∧h'=h.set b (.cells 5 (P++(V++(M++(U++Q))))):=by
 refine aa.body Tryz.f181 _ mixed Tryz.func181 rfl rfl (by simp [Tryz.ntmps181]) ?_;simp;refine aT.up mixed n (fun i fr h'=>fr 0= .own b 0 N∧fr 1= .int .i64 p∧fr 2= .int .i64 q∧fr 3= .int .i64 n∧fr 10= .int .i64 i∧
  ∃all,h'=h.set b (.cells 5 all)∧all=(P++V.take i)++(U.drop i++(M++(U.take i++(V.drop i++Q))))) 0 (by omega) ⟨by simp,by simp,by simp,by simp,by simp,_,rfl,by simp⟩ ?_
 rintro i fr h' hi ⟨e0,e1,e2,e3,e10,all,rfl,hall⟩;rcases zN i n with hlt | hge
 ·obtain⟨u,hu,hu'⟩:=aJ (l:=U) (i:=i) (by omega);obtain⟨v,hv,hv'⟩:=aJ (l:=V) (i:=i) (by omega);have hall':all=(P++V.take i)++u::((U.drop (i+1)++(M++U.take i))++v::(V.drop (i+1)++Q)):=by
   rw [hall,bq hu,bq hv];simp
  have hA:(P++V.take i).length=p+i:=by simp;omega
  have hB:(P++V.take i).length+1+(U.drop (i+1)++(M++U.take i)).length=q+i:=by simp;omega
  have g1:=XR (P++V.take i) (U.drop (i+1)++(M++U.take i)) (V.drop (i+1)++Q) u v;have g2:=at2 (P++V.take i) (U.drop (i+1)++(M++U.take i)) (V.drop (i+1)++Q) u v;have g3:=set2 (P++V.take i) (U.drop (i+1)++(M++U.take i)) (V.drop (i+1)++Q) u v;rw [←hall',hA] at g1;rw [hB,←hall'] at g2;rw [hB,←hall',hA] at g3;have hal:all.length=N:=by rw [hall'];simp;omega
  have huO:=hn u (by simp [zF hu]);have hu5:u.length=5:=huO;have hvO:=hn v (by simp [zF hv]);have hv5:v.length=5:=hvO;have w1:IntKind.i64.wrap ((p:Int)+i)=((p+i:Nat):Int):=by rw [aC (by omega) (by omega)];omega
  have w2:IntKind.i64.wrap ((q:Int)+i)=((q+i:Nat):Int):=by rw [aC (by omega) (by omega)];omega
  have ew:=aB (i:=i) (by omega);have hnx:(all.set (p+i) v).set (q+i) u=(P++V.take (i+1))++(U.drop (i+1)++(M++(U.take (i+1)++(V.drop (i+1)++Q)))):=by
   rw [g3,zM,zM,hu,hv];simp
  clear g3 hall' hall hA hB;have q1:p+i<q+i:=by omega
  have q2:q+i<N:=by omega
  generalize hp':p+i=pi at*;generalize hq':q+i=qi at*;have q3: ¬pi=qi:=by omega
  have q4: ¬qi=pi:=by omega
  have tu:u.take 5=u:=zG (by omega);have tv:v.take 5=v:=zG (by omega);have du:u.drop 5=[]:=zH (by omega);have dv:v.drop 5=[]:=zH (by omega);simp [e0,e1,e2,e3,e10,hlt,w1,w2,g1,g2,hb,hu5,hv5,tu,tv,du,dv,hal,ew,hnx,q3,q4];exact⟨by decide,by omega,by omega,by omega,i+1,by omega,by omega,by omega,rfl⟩
 ·simp [e0,e1,e2,e3,e10,Nat.not_lt.2 hge,hall];rw [zG (by omega),zH (by omega),zH (by omega),zG (by omega)];simp
set_option maxHeartbeats 1000000 in
theorem J4 (b:Nat)(P U V Q:List (List AV))(p m z N:Nat)(hp:P.length=p)(hm:p+U.length=m)(hz:m+V.length=z)(hN:N=z+Q.length)(hl:N≤1000000)(hU:0<U.length)(hV:0<V.length)
  (hb:b<h.length) (hn: ∀e∈P++(U++(V++Q)),e.length=5) (f:FuncId) (caps:List AV):
  aa Tryz.prog gl 166 [.own b 0 N,.int .i64 p,.int .i64 m,.int .i64 z,.fn (.func f) [] caps] (h.set b (.cells 5 (P++(U++(V++Q)))))
   fun v h'=>v= .tup []∧h'=h.set b (.cells 5 (P++(V++(U++Q)))):=by
 refine aa.body Tryz.f166 _ mixed Tryz.func166 rfl rfl (by simp [Tryz.ntmps166]) ?_;have w1:IntKind.i64.wrap ((m:Int) - p)=U.length:=by rw [aC (by omega) (by omega)];omega
 have w2:IntKind.i64.wrap ((z:Int) - m)=V.length:=by rw [aC (by omega) (by omega)];omega
 simp [w1,w2];refine aT.down mixed (fun k fr h'=> ∃(P' U' V' Q':List (List AV)) (u v:Nat),U'.length=u∧V'.length=v∧fr 0= .own b 0 N∧fr 2= .int .i64 m∧fr 4= .fn (.func f) [] caps∧fr 10= .int .i64 u∧fr 11= .int .i64 v∧
  P'.length+u=m∧0<u∧0<v∧k=u+v∧N=m+v+Q'.length∧(∀e∈P'++(U'++(V'++Q')),e.length=5)∧
  h'=h.set b (.cells 5 (P'++(U'++(V'++Q'))))∧P++(V++(U++Q))=P'++(V'++(U'++Q'))) (U.length+V.length) ⟨P,U,V,Q,_,_,rfl,rfl,by simp,by simp,by simp,by simp,by simp,by omega,hU,hV,rfl,by omega,hn,rfl,rfl⟩ ?_
 rintro k fr h' ⟨P',U',V',Q',u,v,hu,hv,e0,e2,e4,e10,e11,hm',hU',hV',rfl,hN',hn',rfl,hT⟩;generalize hp':P'.length=p' at*;have w3:IntKind.i64.wrap ((m:Int) - u)=p':=by rw [aC (by omega) (by omega)];omega
 clear w1 w2;rcases Nat.lt_trichotomy u v with hlt | heq | hgt
 ·have n1: ¬(u:Int)=v:=by omega
  have n2: ¬v<u:=by omega
  have eV:V'=V'.take (v - u)++V'.drop (v - u):=(List.take_append_drop _ _).symm;have l1:(V'.take (v - u)).length=v - u:=by simp;omega
  have l2:(V'.drop (v - u)).length=u:=by simp;omega
  generalize V'.take (v - u)=V1 at*;generalize V'.drop (v - u)=V2 at*;subst eV;have w4:IntKind.i64.wrap (IntKind.i64.wrap ((m:Int)+v) - u)=(m+v - u:Nat):=by
   rw [aC (n:=(m:Int)+v) (by omega) (by omega),aC (by omega) (by omega)];omega
  have w5:IntKind.i64.wrap ((v:Int) - u)=(v - u:Nat):=by rw [aC (by omega) (by omega)];omega
  have hmv:p'+U'.length+V1.length=m+v - u:=by omega
  have hNv:N=m+v - u+V2.length+Q'.length:=by omega
  generalize m+v - u=mv at*;generalize v - u=vu at*;simp [e0,e2,e4,e10,e11,n1,n2,w3,w4,w5];have:=nI (gl:=gl) (h:=h) b P' U' V1 V2 Q' p' mv u N hp' hmv hu l2 hNv hl hb (by simpa using hn') f caps;refine ax.any this ?_;rintro v' h' ⟨rfl,rfl⟩;simp [e0,e2,e4,e10,e11,n1,n2,w3,w4,w5];refine⟨u+vu,by omega,P',V2,by omega,V1,by omega,by omega,by omega,by omega,by omega,U'++Q',by simp;omega,?_,by simp,by rw [hT];simp⟩;intro e he;refine hn' e ?_;simp at he ⊢;rcases he with h | h | h | h | h <;> simp [h]
 ·subst heq;simp [e0,e2,e4,e10,e11,w3];have:=nI (gl:=gl) (h:=h) b P' U' [] V' Q' p' m u N hp' (by simp;omega) hu hv (by omega) hl hb (by simpa using hn') f caps;refine ax.any this ?_;rintro v h' ⟨rfl,rfl⟩;simp [hT]
 ·have n1: ¬(u:Int)=v:=by omega
  have eU:U'=U'.take v++U'.drop v:=(List.take_append_drop _ _).symm;have l1:(U'.take v).length=v:=by simp;omega
  have l2:(U'.drop v).length=u - v:=by simp;omega
  generalize U'.take v=U1 at*;generalize U'.drop v=U2 at*;subst eU;have w5:IntKind.i64.wrap ((u:Int) - v)=(u - v:Nat):=by rw [aC (by omega) (by omega)];omega
  generalize huv:u - v=uv at*;simp [e0,e2,e4,e10,e11,n1,hgt,w3,w5];have:=nI (gl:=gl) (h:=h) b P' U1 U2 V' Q' p' m v N hp' (by omega) l1 hv (by omega) hl hb (by simpa using hn') f caps;refine ax.any this ?_;rintro v' h' ⟨rfl,rfl⟩;simp [e0,e2,e4,e10,e11,n1,w3,w5];refine⟨uv+v,by omega,P'++V',U2,by omega,U1,by omega,by simp;omega,by omega,by omega,by omega,Q',by omega,?_,by simp,by rw [hT];simp⟩;intro e he;refine hn' e ?_;simp at he ⊢;rcases he with (h | h) | h | h | h <;> simp [h]
set_option maxHeartbeats 4000000 in
theorem DC (b:Nat)(hb:b<h.length)(N:Nat)(hl:N≤1000000)(S:List (List AV))(hn: ∀e∈S,e.length=5)(f:FuncId)(caps:List AV)(c:List AV→List AV→Int)(o:SWO (fun x y=>decide (c x y<0)))
  (hc: ∀x∈S,∀y∈S,∀o,aa Tryz.prog gl f (.agg x:: .agg y::caps) (h.set b o) fun v h'=>v= .int .i64 (c x y)∧h'=h.set b o): ∀(P X Y Q:List (List AV)) (a m z:Nat),X.length=1→0<Y.length→
  pU (fun x y=>decide (c x y<0)) X→pU (fun x y=>decide (c x y<0)) Y→P.length=a→a+X.length=m→m+Y.length=z→N=z+Q.length→(∀e∈P++(X++(Y++Q)),e∈S)→
  aa Tryz.prog gl 136 [.own b 0 N,.int .i64 a,.int .i64 m,.int .i64 z,.fn (.func f) [] caps] (h.set b (.cells 5 (P++(X++(Y++Q)))))
   fun v h'=>v= .tup []∧h'=h.set b (.cells 5 (P++(aQ (fun x y=>decide (c x y<0)) (X++Y)++Q))):=by
 intro P X Y Q a m z hX1 hY sX sY ha hm hz hN hS;have hX:0<X.length:=by omega
 refine aa.body Tryz.f136 _ mixed Tryz.func136 rfl rfl (by simp [Tryz.ntmps136]) ?_;have w1:IntKind.i64.wrap ((m:Int) - a)=X.length:=by rw [aC (by omega) (by omega)];omega
 have w2:IntKind.i64.wrap ((z:Int) - m)=Y.length:=by rw [aC (by omega) (by omega)];omega
 have gX: ∀t x,a≤t→t<m→X[t - a]? =some x→(P++(X++(Y++Q)))[t]? =some x:=fun t x h1 h2 hx=>by rw [UX (by omega) (by omega),ha];exact hx
 have gY: ∀t y,m≤t→t<z→Y[t - m]? =some y→(P++(X++(Y++Q)))[t]? =some y:=fun t y h1 h2 hy=>by rw [UY (by omega) (by omega),ha,hm];exact hy
 have hal:(P++(X++(Y++Q))).length=N:=by simp;omega
 obtain⟨x,rfl⟩:=List.length_eq_one_iff.1 hX1;simp [w1,w2];have hx:=gX a x (by omega) (by omega) (by simp);generalize hall:P++([x]++(Y++Q))=all at hx gX gY hal;have hall':P++x::(Y++Q)=all:=by rw [←hall];rfl
 rw [hall'];have hxS:x∈S:=hS x (by simp);have hxO:=hn x hxS;have hx5:x.length=5:=hxO;have tx:x.take 5=x:=zG (by omega);have dx:x.drop 5=[]:=zH (by omega);refine aT.down mixed (fun k fr h'=> ∃i j:Nat,k=j - i∧m≤i∧i≤j∧j≤z∧fr 0= .own b 0 N∧fr 1= .int .i64 a∧fr 2= .int .i64 m∧fr 3= .int .i64 z∧fr 4= .fn (.func f) [] caps∧fr 10= .int .i64 i∧fr 11= .int .i64 j∧
  (∀t y,t<i - m→Y[t]? =some y→c y x<0)∧(∀t y,j≤t+m→Y[t]? =some y→0≤c y x)∧h'=h.set b (.cells 5 all)) (z - m) ⟨m,z,rfl,by omega,by omega,by omega,by simp,by simp,by simp,by simp,by simp,by simp,by simp,by omega,fun t y ht hy=>by have:=aK hy;omega,by simp⟩ ?_
 rintro k fr h' ⟨i,j,rfl,hmi,hij,hjb,e0,e1,e2,e3,e4,e10,e11,hlo,hhi,rfl⟩;rcases zN i j with hlt | hge
 ·have wh:=uF (i:=i) (j:=j) (by omega);have ht1:i≤(i+j) / 2:=by omega
  have ht2:(i+j) / 2<j:=by omega
  generalize (i+j) / 2=t at wh ht1 ht2;obtain⟨y,hy,hy'⟩:=aJ (l:=Y) (i:=t - m) (by omega);have hgy:=gY t y (by omega) (by omega) hy;have hyS:y∈S:=hS y (by simp [zF hy]);have hyO:=hn y hyS;have hy5:y.length=5:=hyO;have ty:y.take 5=y:=zG (by omega);have ew:=aB (i:=t) (by omega);simp [e0,e1,e2,e3,e4,e10,e11,hlt,wh,hgy,hx,hb,hal,hx5,hy5];refine⟨by decide,by omega,by omega,?_⟩;rw [tx,ty];refine ax.pure _ (fun _=>hc y hyS x hxS _) ?_;simp [e0,e1,e2,e3,e4,e10,e11,wh,ew];refine⟨fun hcy=>⟨j - (t+1),by omega,t+1,j,rfl,by omega,by omega,by omega,by omega,by omega,?_,hhi⟩,fun hcy=>⟨t - i,by omega,i,t,rfl,by omega,by omega,by omega,by omega,by omega,hlo,?_⟩⟩
  ·intro t' y' ht' hy';have:=sY.get o (i:=t') (j:=t - m) (by omega) hy' hy;have h2:=o.le_lt this (by simpa using hcy:decide (c y x<0)=true);simpa using h2
  ·intro t' y' ht' hy';have:=sY.get o (i:=t - m) (j:=t') (by omega) hy hy';have h2:=o.trans _ _ _ this (by simpa using hcy:decide (c y x<0)=false);simpa using h2
 ·obtain rfl:i=j:=by omega
  have hfin:P++(Y.take (i - m)++x::(Y.drop (i - m)++Q))=P++(aQ (fun x y=>decide (c x y<0)) ([x]++Y)++Q):=by
   have:=OD o (x:=x) (y1:=Y.take (i - m)) (y2:=Y.drop (i - m)) (by rw [List.take_append_drop];exact sY) ?_ ?_
   ·rw [List.take_append_drop] at this;rw [show [x]++Y=x::Y from rfl,←this];simp
   ·intro y hy;obtain⟨t,ht,hy⟩:=mK.1 hy;simpa using hlo t y ht hy
   ·intro y hy;obtain⟨t,ht,hy⟩:=mJ.1 hy;simpa using hhi t y (by omega) hy
  have w3:IntKind.i64.wrap ((i:Int) - 1)=(i - 1:Nat):=by rw [aC (by omega) (by omega)];omega
  simp [e0,e1,e2,e3,e4,e10,e11];refine aT.up mixed (i - m) (fun t fr h'=> ∃q:Nat,q=a+t∧fr 0= .own b 0 N∧fr 10= .int .i64 i∧fr 13= .int .i64 q∧h'=h.set b (.cells 5 (P++(Y.take t++x::(Y.drop t++Q))))) 0 (by omega) ⟨a,by omega,by simp [e0],by simp [e10],by simp,by simp [hall']⟩ ?_;rintro t fr h' ht ⟨q,hq,e0,e10,e13,rfl⟩;rcases zN t (i - m) with hlt | hge
  ·obtain⟨y,hy,hy'⟩:=aJ (l:=Y) (i:=t) (by omega);have hA:(P++Y.take t).length=q:=by simp;omega
   have g1:=XR (P++Y.take t) [] (Y.drop (t+1)++Q) x y;have g2:=at2 (P++Y.take t) [] (Y.drop (t+1)++Q) x y;have g3:=set2 (P++Y.take t) [] (Y.drop (t+1)++Q) x y;have hcur:P++(Y.take t++x::(Y.drop t++Q))=(P++Y.take t)++x::([]++y::(Y.drop (t+1)++Q)):=by rw [bq hy];simp
   have hnx:(P++Y.take t)++y::([]++x::(Y.drop (t+1)++Q))=P++(Y.take (t+1)++x::(Y.drop (t+1)++Q)):=by rw [zM,hy];simp
   have hcl:(P++(Y.take t++x::(Y.drop t++Q))).length=N:=by simp at hal ⊢;omega
   rw [hnx] at g3;rw [←hcur] at g1 g2 g3;rw [hA] at g1 g2 g3;have hyS:y∈S:=hS y (by simp [zF hy]);have hyO:=hn y hyS;have hy5:y.length=5:=hyO;have ty:y.take 5=y:=zG (by omega);have dy:y.drop 5=[]:=zH (by omega);have ew:=PN (i:=q) (by omega);have hqi:q<i - 1:=by omega
   generalize P++(Y.take t++x::(Y.drop t++Q))=cur at*;generalize hnn:P++(Y.take (t+1)++x::(Y.drop (t+1)++Q))=nxt at*;generalize i - 1=i1 at*;simp only [List.length_nil,Nat.add_zero] at g2 g3;simp [e0,e10,e13,w3,hqi,ew,g1,g2,hb,hcl,hx5,hy5,tx,ty,dx,dy,g3];refine⟨by decide,⟨by omega,by omega⟩,by omega,by omega,⟨by omega,by omega⟩,by omega,t+1,by omega,by omega,by omega,?_⟩;rw [hnn]
  ·obtain rfl:t=i - m:=by omega
   have hqi: ¬q<i - 1:=by omega
   generalize i - 1=i1 at*;simp [e0,e10,e13,w3,hqi];rw [hfin];simp
set_option maxHeartbeats 4000000 in
theorem DD (b:Nat)(hb:b<h.length)(N:Nat)(hl:N≤1000000)(S:List (List AV))(hn: ∀e∈S,e.length=5)(f:FuncId)(caps:List AV)(c:List AV→List AV→Int)(o:SWO (fun x y=>decide (c x y<0)))
  (hc: ∀x∈S,∀y∈S,∀o,aa Tryz.prog gl f (.agg x:: .agg y::caps) (h.set b o) fun v h'=>v= .int .i64 (c x y)∧h'=h.set b o): ∀(P X Y Q:List (List AV)) (a m z:Nat),¬X.length=1→0<X.length→Y.length=1→
  pU (fun x y=>decide (c x y<0)) X→pU (fun x y=>decide (c x y<0)) Y→P.length=a→a+X.length=m→m+Y.length=z→N=z+Q.length→(∀e∈P++(X++(Y++Q)),e∈S)→
  aa Tryz.prog gl 136 [.own b 0 N,.int .i64 a,.int .i64 m,.int .i64 z,.fn (.func f) [] caps] (h.set b (.cells 5 (P++(X++(Y++Q)))))
   fun v h'=>v= .tup []∧h'=h.set b (.cells 5 (P++(aQ (fun x y=>decide (c x y<0)) (X++Y)++Q))):=by
 intro P X Y Q a m z hX1 hX hY1 sX sY ha hm hz hN hS;have hY:0<Y.length:=by omega
 refine aa.body Tryz.f136 _ mixed Tryz.func136 rfl rfl (by simp [Tryz.ntmps136]) ?_;have w1:IntKind.i64.wrap ((m:Int) - a)=X.length:=by rw [aC (by omega) (by omega)];omega
 have w2:IntKind.i64.wrap ((z:Int) - m)=Y.length:=by rw [aC (by omega) (by omega)];omega
 have gX: ∀t x,a≤t→t<m→X[t - a]? =some x→(P++(X++(Y++Q)))[t]? =some x:=fun t x h1 h2 hx=>by rw [UX (by omega) (by omega),ha];exact hx
 have gY: ∀t y,m≤t→t<z→Y[t - m]? =some y→(P++(X++(Y++Q)))[t]? =some y:=fun t y h1 h2 hy=>by rw [UY (by omega) (by omega),ha,hm];exact hy
 have hal:(P++(X++(Y++Q))).length=N:=by simp;omega
 obtain⟨y,rfl⟩:=List.length_eq_one_iff.1 hY1;have n1: ¬(X.length:Int)=1:=by omega
 simp [w1,w2,n1];have hy:=gY m y (by omega) (by omega) (by simp);generalize hall:P++(X++([y]++Q))=all at hy gX gY hal;have hall':P++(X++y::Q)=all:=by rw [←hall];rfl
 rw [hall'];have hyS:y∈S:=hS y (by simp);have hyO:=hn y hyS;have hy5:y.length=5:=hyO;have ty:y.take 5=y:=zG (by omega);have dy:y.drop 5=[]:=zH (by omega);refine aT.down mixed (fun k fr h'=> ∃i j:Nat,k=j - i∧a≤i∧i≤j∧j≤m∧fr 0= .own b 0 N∧fr 1= .int .i64 a∧fr 2= .int .i64 m∧fr 3= .int .i64 z∧fr 4= .fn (.func f) [] caps∧fr 14= .int .i64 i∧fr 15= .int .i64 j∧
  (∀t x,t<i - a→X[t]? =some x→0≤c y x)∧(∀t x,j≤t+a→X[t]? =some x→c y x<0)∧h'=h.set b (.cells 5 all)) (m - a) ⟨a,m,rfl,by omega,by omega,by omega,by simp,by simp,by simp,by simp,by simp,by simp,by simp,by omega,fun t y ht hy=>by have:=aK hy;omega,by simp⟩ ?_
 rintro k fr h' ⟨i,j,rfl,hmi,hij,hjb,e0,e1,e2,e3,e4,e14,e15,hlo,hhi,rfl⟩;rcases zN i j with hlt | hge
 ·have wh:=uF (i:=i) (j:=j) (by omega);have ht1:i≤(i+j) / 2:=by omega
  have ht2:(i+j) / 2<j:=by omega
  generalize (i+j) / 2=t at wh ht1 ht2;obtain⟨x,hx,hx'⟩:=aJ (l:=X) (i:=t - a) (by omega);have hgx:=gX t x (by omega) (by omega) hx;have hxS:x∈S:=hS x (by simp [zF hx]);have hxO:=hn x hxS;have hx5:x.length=5:=hxO;have tx:x.take 5=x:=zG (by omega);have ew:=aB (i:=t) (by omega);simp [e0,e1,e2,e3,e4,e14,e15,hlt,wh,hgx,hy,hb,hal,hx5,hy5];refine⟨by decide,by omega,by omega,?_⟩;rw [tx,ty];refine ax.pure _ (fun _=>hc y hyS x hxS _) ?_;simp [e0,e1,e2,e3,e4,e14,e15,wh,ew];refine⟨fun hcy=>⟨j - (t+1),by omega,t+1,j,rfl,by omega,by omega,by omega,by omega,by omega,?_,hhi⟩,fun hcy=>⟨t - i,by omega,i,t,rfl,by omega,by omega,by omega,by omega,by omega,hlo,?_⟩⟩
  ·intro t' x' ht' hx';have:=sX.get o (i:=t') (j:=t - a) (by omega) hx' hx;have h2:=o.trans _ _ _ (by simpa using hcy:decide (c y x<0)=false) this;simpa using h2
  ·intro t' x' ht' hx';have:=sX.get o (i:=t - a) (j:=t') (by omega) hx hx';have h2:=o.lt_le (by simpa using hcy:decide (c y x<0)=true) this;simpa using h2
 ·obtain rfl:i=j:=by omega
  have hfin:P++(X.take (i - a)++y::(X.drop (i - a)++Q))=P++(aQ (fun x y=>decide (c x y<0)) (X++[y])++Q):=by
   have:=Lv o (y:=y) (x1:=X.take (i - a)) (x2:=X.drop (i - a)) (by rw [List.take_append_drop];exact sX) ?_ ?_
   ·rw [List.take_append_drop] at this;rw [←this];simp
   ·intro x hx;obtain⟨t,ht,hx⟩:=mK.1 hx;simpa using hlo t x ht hx
   ·intro x hx;obtain⟨t,ht,hx⟩:=mJ.1 hx;simpa using hhi t x (by omega) hx
  simp [e0,e1,e2,e3,e4,e14,e15];refine aT.down mixed (fun t fr h'=> ∃q:Nat,q=a+t∧i≤q∧t≤X.length∧fr 0= .own b 0 N∧fr 14= .int .i64 i∧fr 17= .int .i64 q∧h'=h.set b (.cells 5 (P++(X.take t++y::(X.drop t++Q))))) X.length ⟨m,by omega,by omega,by omega,by simp [e0],by simp [e14],by simp,by simp [←hall']⟩ ?_;rintro t fr h' ⟨q,hq,hiq,htX,e0,e14,e17,rfl⟩;rcases zN i q with hlt | hge
  ·obtain⟨s,rfl⟩: ∃s,t=s+1:=⟨t - 1,by omega⟩;obtain⟨x,hx,hx'⟩:=aJ (l:=X) (i:=s) (by omega);obtain⟨r,rfl⟩: ∃r,q=r+1:=⟨q - 1,by omega⟩;have hA:(P++X.take s).length=r:=by simp;omega
   have g1:=XR (P++X.take s) [] (X.drop (s+1)++Q) x y;have g2:=at2 (P++X.take s) [] (X.drop (s+1)++Q) x y;have g3:=Xp (P++X.take s) [] (X.drop (s+1)++Q) x y;have hcur:P++(X.take (s+1)++y::(X.drop (s+1)++Q))=(P++X.take s)++x::([]++y::(X.drop (s+1)++Q)):=by rw [zM,hx];simp
   have hnx:(P++X.take s)++y::([]++x::(X.drop (s+1)++Q))=P++(X.take s++y::(X.drop s++Q)):=by rw [bq hx];simp
   have hcl:(P++(X.take (s+1)++y::(X.drop (s+1)++Q))).length=N:=by simp at hal ⊢;omega
   rw [hnx] at g3;rw [←hcur] at g1 g2 g3;rw [hA] at g1 g2 g3;have hxS:x∈S:=hS x (by simp [zF hx]);have hxO:=hn x hxS;have hx5:x.length=5:=hxO;have tx:x.take 5=x:=zG (by omega);have dx:x.drop 5=[]:=zH (by omega);have e17':fr 17= .int .i64 ((r:Int)+1):=by rw [e17];simp
   have w4:IntKind.i64.wrap (r:Int)=r:=aC (by omega) (by omega);have hir:(i:Int)<r+1:=by omega
   generalize P++(X.take (s+1)++y::(X.drop (s+1)++Q))=cur at*;generalize hnn:P++(X.take s++y::(X.drop s++Q))=nxt at*;simp only [List.length_nil,Nat.add_zero] at g2 g3;simp [e0,e14,e17',hir,w4,g1,g2,hb,hcl,hx5,hy5,tx,ty,dx,dy,g3];refine⟨by decide,by omega,⟨by omega,by omega⟩,by omega,⟨by omega,by omega⟩,by omega,by omega,s,by omega,by omega,by omega,by omega,?_⟩;rw [hnn]
  ·obtain rfl:t=i - a:=by omega
   have hqi: ¬i<q:=by omega
   simp [e0,e14,e17,hqi];rw [hfin]
set_option maxHeartbeats 1000000 in
theorem DF (b:Nat)(hb:b<h.length)(N:Nat)(hl:N≤1000000)(S:List (List AV))(hn: ∀e∈S,e.length=5)(f:FuncId)(caps:List AV)(c:List AV→List AV→Int)(o:SWO (fun x y=>decide (c x y<0)))
  (hc: ∀x∈S,∀y∈S,∀o,aa Tryz.prog gl f (.agg x:: .agg y::caps) (h.set b o) fun v h'=>v= .int .i64 (c x y)∧h'=h.set b o)
  (P X Y Q:List (List AV)) (a m z:Nat) (hX:0<X.length) (hY:0<Y.length) (sX:pU (fun x y=>decide (c x y<0)) X) (sY:pU (fun x y=>decide (c x y<0)) Y) (ha:P.length=a) (hm:a+X.length=m) (hz:m+Y.length=z) (hN:N=z+Q.length)
  (hS: ∀e∈P++(X++(Y++Q)),e∈S) (n:Nat) (hXY:X.length+Y.length≤n+1)
  (ih: ∀(P X Y Q:List (List AV)) (a m z:Nat),X.length+Y.length≤n→0<X.length→0<Y.length→
  pU (fun x y=>decide (c x y<0)) X→pU (fun x y=>decide (c x y<0)) Y→P.length=a→a+X.length=m→m+Y.length=z→N=z+Q.length→(∀e∈P++(X++(Y++Q)),e∈S)→
   aa Tryz.prog gl 136 [.own b 0 N,.int .i64 a,.int .i64 m,.int .i64 z,.fn (.func f) [] caps] (h.set b (.cells 5 (P++(X++(Y++Q)))))
    fun v h'=>v= .tup []∧h'=h.set b (.cells 5 (P++(aQ (fun x y=>decide (c x y<0)) (X++Y)++Q))))
  (mid nn i e:Nat) (hm1:2*mid≤a+z) (hm2:a+z<2*mid+2) (hnn:mid+m=nn) (hia:a≤i) (him:i≤m) (g1:m≤nn - i) (g2:nn - i≤z) (he:nn - i=e)
  (hdone:aQ (fun x y=>decide (c x y<0)) (X.take (i - a)++Y.take (nn - i - m))++aQ (fun x y=>decide (c x y<0)) (X.drop (i - a)++Y.drop (nn - i - m))=aQ (fun x y=>decide (c x y<0)) (X++Y)):
  ∃cur2 cur3:List (List AV),
   (i<m→m<e→aa Tryz.prog gl 166 [.own b 0 N,.int .i64 i,.int .i64 m,.int .i64 e,.fn (.func f) [] caps] (h.set b (.cells 5 (P++(X++(Y++Q))))) fun v h'=>v= .tup []∧h'=h.set b (.cells 5 cur2))∧(¬(i<m∧m<e)→P++(X++(Y++Q))=cur2)∧
   (a<i→i<mid→aa Tryz.prog gl 136 [.own b 0 N,.int .i64 a,.int .i64 i,.int .i64 mid,.fn (.func f) [] caps] (h.set b (.cells 5 cur2)) fun v h'=>v= .tup []∧h'=h.set b (.cells 5 cur3))∧(¬(a<i∧i<mid)→cur2=cur3)∧
   (mid<e→e<z→aa Tryz.prog gl 136 [.own b 0 N,.int .i64 mid,.int .i64 e,.int .i64 z,.fn (.func f) [] caps] (h.set b (.cells 5 cur3)) fun v h'=>v= .tup []∧h'=h.set b (.cells 5 (P++(aQ (fun x y=>decide (c x y<0)) (X++Y)++Q))))∧(¬(mid<e∧e<z)→cur3=P++(aQ (fun x y=>decide (c x y<0)) (X++Y)++Q)):=by
 have hl1:(X.take (i - a)).length=i - a:=by simp;omega
 have hl2:(X.drop (i - a)).length=m - i:=by simp;omega
 have hl3:(Y.take (nn - i - m)).length=nn - i - m:=by simp;omega
 have hl4:(Y.drop (nn - i - m)).length=z - (nn - i):=by simp;omega
 have hX':X=X.take (i - a)++X.drop (i - a):=(List.take_append_drop _ _).symm;have hY':Y=Y.take (nn - i - m)++Y.drop (nn - i - m):=(List.take_append_drop _ _).symm;have sx1:=sX.take (i - a);have sx2:=sX.drop (i - a);have sy1:=sY.take (nn - i - m);have sy2:=sY.drop (nn - i - m);generalize X.take (i - a)=x1 at*;generalize X.drop (i - a)=x2 at*;generalize Y.take (nn - i - m)=y1 at*;generalize Y.drop (nn - i - m)=y2 at*;have g1:m≤nn - i:=by omega
 have g2:nn - i≤z:=by omega
 have g3:i - a+(nn - i - m)=mid - a:=by omega
 rw [he] at hl3 hl4 g1 g2 g3;have hS': ∀q∈P++(x1++(x2++(y1++(y2++Q)))),q∈S:=by rw [hX',hY'] at hS;simpa using hS
 have ha1:P++(X++(Y++Q))=P++(x1++(x2++(y1++(y2++Q)))):=by rw [hX',hY'];simp
 clear hX' hY';have hfin:P++(aQ (fun x y=>decide (c x y<0)) (X++Y)++Q)=(P++aQ (fun x y=>decide (c x y<0)) (x1++y1))++(aQ (fun x y=>decide (c x y<0)) (x2++y2)++Q):=by rw [←hdone];simp
 have hrot:i<m→m<e→aa Tryz.prog gl 166 [.own b 0 N,.int .i64 i,.int .i64 m,.int .i64 e,.fn (.func f) [] caps] (h.set b (.cells 5 (P++(X++(Y++Q))))) fun v h'=>v= .tup []∧h'=h.set b (.cells 5 (P++(x1++(y1++(x2++(y2++Q)))))):=by
  intro k1 k2;have:=J4 (gl:=gl) (h:=h) b (P++x1) x2 y1 (y2++Q) i m e N (by simp;omega) (by omega) (by omega) (by simp;omega) hl (by omega) (by omega) hb (fun q hq=>hn q (hS' q (by simpa using hq))) f caps;rw [ha1];simpa using this
 have hsame: ¬(i<m∧m<e)→P++(X++(Y++Q))=P++(x1++(y1++(x2++(y2++Q)))):=by
  intro k;rw [ha1];rcases zN i m with k1 | k1
  ·have:y1=[]:=List.length_eq_zero_iff.1 (by omega);simp [this]
  ·have:x2=[]:=List.length_eq_zero_iff.1 (by omega);simp [this]
 have hr1:a<i→i<mid→aa Tryz.prog gl 136 [.own b 0 N,.int .i64 a,.int .i64 i,.int .i64 mid,.fn (.func f) [] caps] (h.set b (.cells 5 (P++(x1++(y1++(x2++(y2++Q))))))) fun v h'=>v= .tup []∧h'=h.set b (.cells 5 (P++(aQ (fun x y=>decide (c x y<0)) (x1++y1)++(x2++(y2++Q))))):=by
  intro k1 k2;refine ih P x1 y1 (x2++(y2++Q)) a i mid (by omega) (by omega) (by omega) sx1 sy1 ha (by omega) (by omega) (by simp;omega) (fun q hq=>hS' q ?_);simp at hq ⊢;rcases hq with k | k | k | k | k | k <;> simp [k]
 have hsame1: ¬(a<i∧i<mid)→P++(x1++(y1++(x2++(y2++Q))))=P++(aQ (fun x y=>decide (c x y<0)) (x1++y1)++(x2++(y2++Q))):=by
  intro k;rcases zN a i with k1 | k1
  ·have:y1=[]:=List.length_eq_zero_iff.1 (by omega);rw [this,List.append_nil,kr o sx1];simp
  ·have:x1=[]:=List.length_eq_zero_iff.1 (by omega);rw [this,List.nil_append,List.nil_append,kr o sy1]
 have hl5:(aQ (fun x y=>decide (c x y<0)) (x1++y1)).length=mid - a:=by rw [bz];simp;omega
 have hr2:mid<e→e<z→aa Tryz.prog gl 136 [.own b 0 N,.int .i64 mid,.int .i64 e,.int .i64 z,.fn (.func f) [] caps] (h.set b (.cells 5 (P++(aQ (fun x y=>decide (c x y<0)) (x1++y1)++(x2++(y2++Q)))))) fun v h'=>v= .tup []∧h'=h.set b (.cells 5 (P++(aQ (fun x y=>decide (c x y<0)) (X++Y)++Q))):=by
  intro k1 k2;have:=ih (P++aQ (fun x y=>decide (c x y<0)) (x1++y1)) x2 y2 Q mid e z (by omega) (by omega) (by omega) sx2 sy2 (by simp [hl5];omega) (by omega) (by omega) (by omega) (fun q hq=>hS' q ?_)
  ·rw [hfin];simpa using this
  simp only [List.mem_append,dB] at hq ⊢;rcases hq with (k | k | k) | k | k | k <;> simp [k]
 have hsame2: ¬(mid<e∧e<z)→P++(aQ (fun x y=>decide (c x y<0)) (x1++y1)++(x2++(y2++Q)))=P++(aQ (fun x y=>decide (c x y<0)) (X++Y)++Q):=by
  intro k;rw [hfin];rcases zN mid e with k1 | k1
  ·have:y2=[]:=List.length_eq_zero_iff.1 (by omega);rw [this,List.append_nil,kr o sx2];simp
  ·have:x2=[]:=List.length_eq_zero_iff.1 (by omega);rw [this,List.nil_append,List.nil_append,kr o sy2];simp
 exact⟨_,_,hrot,hsame,hr1,hsame1,hr2,hsame2⟩
set_option maxHeartbeats 4000000 in
theorem Dz (b:Nat)(hb:b<h.length)(N:Nat)(hl:N≤1000000)(S:List (List AV))(hn: ∀e∈S,e.length=5)(f:FuncId)(caps:List AV)(c:List AV→List AV→Int)(o:SWO (fun x y=>decide (c x y<0)))
  (hc: ∀x∈S,∀y∈S,∀o,aa Tryz.prog gl f (.agg x:: .agg y::caps) (h.set b o) fun v h'=>v= .int .i64 (c x y)∧h'=h.set b o) (n:Nat)
  (ih: ∀(P X Y Q:List (List AV)) (a m z:Nat),X.length+Y.length≤n→0<X.length→0<Y.length→
  pU (fun x y=>decide (c x y<0)) X→pU (fun x y=>decide (c x y<0)) Y→P.length=a→a+X.length=m→m+Y.length=z→N=z+Q.length→(∀e∈P++(X++(Y++Q)),e∈S)→
   aa Tryz.prog gl 136 [.own b 0 N,.int .i64 a,.int .i64 m,.int .i64 z,.fn (.func f) [] caps] (h.set b (.cells 5 (P++(X++(Y++Q)))))
    fun v h'=>v= .tup []∧h'=h.set b (.cells 5 (P++(aQ (fun x y=>decide (c x y<0)) (X++Y)++Q)))): ∀(P X Y Q:List (List AV)) (a m z:Nat),X.length+Y.length≤n+1→ ¬X.length=1→ ¬Y.length=1→0<X.length→0<Y.length→
  pU (fun x y=>decide (c x y<0)) X→pU (fun x y=>decide (c x y<0)) Y→P.length=a→a+X.length=m→m+Y.length=z→N=z+Q.length→(∀e∈P++(X++(Y++Q)),e∈S)→
  aa Tryz.prog gl 136 [.own b 0 N,.int .i64 a,.int .i64 m,.int .i64 z,.fn (.func f) [] caps] (h.set b (.cells 5 (P++(X++(Y++Q)))))
   fun v h'=>v= .tup []∧h'=h.set b (.cells 5 (P++(aQ (fun x y=>decide (c x y<0)) (X++Y)++Q))):=by
 intro P X Y Q a m z hXY hX1 hY1 hX hY sX sY ha hm hz hN hS;refine aa.body Tryz.f136 _ mixed Tryz.func136 rfl rfl (by simp [Tryz.ntmps136]) ?_;have w1:IntKind.i64.wrap ((m:Int) - a)=X.length:=by rw [aC (by omega) (by omega)];omega
 have w2:IntKind.i64.wrap ((z:Int) - m)=Y.length:=by rw [aC (by omega) (by omega)];omega
 have gX: ∀t x,a≤t→t<m→X[t - a]? =some x→(P++(X++(Y++Q)))[t]? =some x:=fun t x h1 h2 hx=>by rw [UX (by omega) (by omega),ha];exact hx
 have gY: ∀t y,m≤t→t<z→Y[t - m]? =some y→(P++(X++(Y++Q)))[t]? =some y:=fun t y h1 h2 hy=>by rw [UY (by omega) (by omega),ha,hm];exact hy
 have hal:(P++(X++(Y++Q))).length=N:=by simp;omega
 have n1: ¬(X.length:Int)=1:=by omega
 have n2: ¬(Y.length:Int)=1:=by omega
 have wh:=uF (i:=a) (j:=z) (by omega);obtain⟨mid,hmid⟩: ∃mid,(a+z) / 2=mid:=⟨_,rfl⟩;rw [hmid] at wh;have hm1:2*mid≤a+z:=by omega
 have hm2:a+z<2*mid+2:=by omega
 have w3:IntKind.i64.wrap ((mid:Int)+m)=(mid+m:Nat):=by rw [aC (by omega) (by omega)];omega
 obtain⟨nn,hnn⟩: ∃nn,mid+m=nn:=⟨_,rfl⟩;rw [hnn] at w3;have w4:IntKind.i64.wrap ((nn:Int) - 1)=(nn - 1:Nat):=by rw [aC (by omega) (by omega)];omega
 obtain⟨pp,hpp⟩: ∃pp,nn - 1=pp:=⟨_,rfl⟩;rw [hpp] at w4;obtain⟨s0,r0,hbr,F1,F2,F3,F4,F5,F6,F7,F8⟩: ∃s0 r0:Nat,((mid<m∧nn - z=s0∧mid=r0∧IntKind.i64.wrap ((nn:Int) - z)=(s0:Nat))∨(m≤mid∧a=s0∧m=r0))∧a≤s0∧s0≤r0∧
   (∀c,s0≤c→c<r0→a≤c∧c<m∧m≤pp - c∧pp - c<z∧c≤pp)∧r0≤m∧m≤nn - r0∧nn - s0≤z∧(r0=m∨nn - r0=m)∧(s0=a∨nn - s0=z):=by
  rcases zN mid m with hmm | hmm
  ·exact⟨nn - z,mid,.inl ⟨hmm,rfl,rfl,by rw [aC (by omega) (by omega)];omega⟩,by omega,by omega,fun c h1 h2=>by omega,by omega,by omega,by omega,by omega,by omega⟩
  ·exact⟨a,m,.inr ⟨hmm,rfl,rfl⟩,by omega,by omega,fun c h1 h2=>by omega,by omega,by omega,by omega,by omega,by omega⟩
 have done: ∀s,s0≤s→s≤r0→(s0<s→ ∀x y,X[s - 1 - a]? =some x→Y[pp - (s - 1) - m]? =some y→0≤c y x)→(s<r0→ ∀x y,X[s - a]? =some x→Y[pp - s - m]? =some y→c y x<0)→
   aQ (fun x y=>decide (c x y<0)) (X.take (s - a)++Y.take (nn - s - m))++aQ (fun x y=>decide (c x y<0)) (X.drop (s - a)++Y.drop (nn - s - m))=aQ (fun x y=>decide (c x y<0)) (X++Y):=by
  intro s h1 h2 h3 h4;refine UQ o sX sY (by omega) (by omega) ?_ ?_
  ·intro k1 k2 x y hx hy;have:s<r0:=by omega
   have:=h4 this x y hx (by rw [show pp - s - m=nn - s - m - 1 by omega];exact hy);simpa using this
  ·intro k1 k2 x y hx hy;have:s0<s:=by omega
   have:=h3 this x y (by rw [show s - 1 - a=s - a - 1 by omega];exact hx) (by rw [show pp - (s - 1) - m=nn - s - m by omega];exact hy);simpa using this
 generalize hall:P++(X++(Y++Q))=all at gX gY hal;simp [w1,w2,n1,n2,wh,w3,w4,hall];refine aT.join (fun fr h'=>fr 0= .own b 0 N∧fr 1= .int .i64 a∧fr 2= .int .i64 m∧fr 3= .int .i64 z∧fr 4= .fn (.func f) [] caps∧fr 18= .int .i64 mid∧fr 19= .int .i64 nn∧fr 20= .int .i64 s0∧fr 21= .int .i64 r0∧fr 22= .int .i64 pp∧h'=h.set b (.cells 5 all)) (fun hp=> ?_) (fun hq=> ?_) ?_
 ·rcases hbr with⟨_,hs0,hr0,w5⟩ | ⟨hbr,_⟩
  ·exact⟨by simp,by simp,by simp,by simp,by simp,by simp,by simp,by simp [w5],by simp [hr0],by simp,rfl⟩
  ·omega
 ·rcases hbr with⟨hbr,_⟩ | ⟨hbr,hs0,hr0⟩
  ·omega
  ·exact⟨by simp,by simp,by simp,by simp,by simp,by simp,by simp,by simp [hs0],by simp [hr0],by simp,rfl⟩
 clear hbr;rintro fr h' ⟨e0,e1,e2,e3,e4,e18,e19,e20,e21,e22,rfl⟩;refine aT.down mixed (fun k fr h'=> ∃i j:Nat,k=j - i∧s0≤i∧i≤j∧j≤r0∧fr 0= .own b 0 N∧fr 1= .int .i64 a∧fr 2= .int .i64 m∧fr 3= .int .i64 z∧fr 4= .fn (.func f) [] caps∧fr 18= .int .i64 mid∧fr 19= .int .i64 nn∧fr 20= .int .i64 i∧fr 21= .int .i64 j∧fr 22= .int .i64 pp∧
  (s0<i→ ∀x y,X[i - 1 - a]? =some x→Y[pp - (i - 1) - m]? =some y→0≤c y x)∧(j<r0→ ∀x y,X[j - a]? =some x→Y[pp - j - m]? =some y→c y x<0)∧h'=h.set b (.cells 5 all)) (r0 - s0) ⟨s0,r0,rfl,by omega,by omega,by omega,e0,e1,e2,e3,e4,e18,e19,e20,e21,e22,by omega,by omega,rfl⟩ ?_
 clear e0 e1 e2 e3 e4 e18 e19 e20 e21 e22;rintro k fr h' ⟨i,j,rfl,hmi,hij,hjb,e0,e1,e2,e3,e4,e18,e19,e20,e21,e22,hlo,hhi,rfl⟩;rcases zN i j with hlt | hge
 ·have wh:=uF (i:=i) (j:=j) (by omega);have ht1:i≤(i+j) / 2:=by omega
  have ht2:(i+j) / 2<j:=by omega
  generalize (i+j) / 2=t at wh ht1 ht2;obtain⟨k1,k2,k3,k4,k5⟩:=F3 t (by omega) (by omega);obtain⟨x,hx,hx'⟩:=aJ (l:=X) (i:=t - a) (by omega);obtain⟨y,hy,hy'⟩:=aJ (l:=Y) (i:=pp - t - m) (by omega);have hgx:=gX t x (by omega) (by omega) hx;have hgy:=gY (pp - t) y (by omega) (by omega) hy;have w6:IntKind.i64.wrap ((pp:Int) - t)=(pp - t:Nat):=by rw [aC (by omega) (by omega)];omega
  have hxS:x∈S:=hS x (by simp [zF hx]);have hyS:y∈S:=hS y (by simp [zF hy]);have hxO:=hn x hxS;have hx5:x.length=5:=hxO;have hyO:=hn y hyS;have hy5:y.length=5:=hyO;have tx:x.take 5=x:=zG (by omega);have ty:y.take 5=y:=zG (by omega);have ew:=aB (i:=t) (by omega);obtain⟨u,hu⟩: ∃u,pp - t=u:=⟨_,rfl⟩;rw [hu] at hgy w6;have hi0:(0:Int)≤u:=by omega
  simp [e0,e1,e2,e3,e4,e18,e19,e20,e21,e22,hlt,wh,w6,hgx,hgy,hb,hal,hx5,hy5];refine⟨by decide,by omega,by omega,?_⟩;rw [tx,ty];refine ax.pure _ (fun _=>hc y hyS x hxS _) ?_;simp [e0,e1,e2,e3,e4,e18,e19,e20,e21,e22,wh,ew];refine⟨fun hcy=>⟨j - (t+1),by omega,t+1,j,rfl,by omega,by omega,by omega,by omega,by omega,?_,hhi⟩,fun hcy=>⟨t - i,by omega,i,t,rfl,by omega,by omega,by omega,by omega,by omega,hlo,?_⟩⟩
  ·intro _ x' y' hx' hy';rw [show t+1 - 1=t by omega] at hx' hy';rw [hx] at hx';rw [hy] at hy'
   injection hx' with hx';injection hy' with hy'
   rw [←hx',←hy'];exact hcy
  ·intro _ x' y' hx' hy';rw [hx] at hx';rw [hy] at hy'
   injection hx' with hx';injection hy' with hy'
   rw [←hx',←hy'];exact hcy
 ·obtain rfl:i=j:=by omega
  have w7:IntKind.i64.wrap ((nn:Int) - i)=(nn - i:Nat):=by rw [aC (by omega) (by omega)];omega
  obtain⟨e,he⟩: ∃e,nn - i=e:=⟨_,rfl⟩;rw [he] at w7;obtain⟨cur2,cur3,hrot,hsame,hr1,hsame1,hr2,hsame2⟩:=DF (gl:=gl) (h:=h) b hb N hl S hn f caps c o hc P X Y Q a m z hX hY sX sY ha hm hz hN hS n hXY ih mid nn i e hm1 hm2 hnn (by omega) (by omega) (by omega) (by omega) he (done i (by omega) (by omega) hlo hhi);rw [hall] at hrot hsame;clear hlo hhi done F3 gX gY ih hS hall sX sY hc;generalize P++(aQ (fun x y=>decide (c x y<0)) (X++Y)++Q)=fin at*;by_cases c1:i<m∧m<e
  ·simp [e0,e1,e2,e3,e4,e18,e19,e20,e21,e22,w7,c1.1,c1.2];refine ax.any (hrot c1.1 c1.2) ?_;rintro v h' ⟨rfl,rfl⟩;by_cases c2:a<i∧i<mid
   ·simp [e0,e1,e2,e3,e4,e18,e19,e20,e21,e22,w7,c2.1,c2.2];refine ax.any (hr1 c2.1 c2.2) ?_;rintro v h' ⟨rfl,rfl⟩;by_cases c3:mid<e∧e<z
    ·simp [e0,e1,e2,e3,e4,e18,e19,e20,e21,e22,w7,c3.1,c3.2];refine ax.any (hr2 c3.1 c3.2) ?_;rintro v h' ⟨rfl,rfl⟩;simp
    ·simp [e0,e1,e2,e3,e4,e18,e19,e20,e21,e22,w7];exact⟨fun k1 k2=>absurd ⟨k1,k2⟩ c3,fun _=>by rw [hsame2 c3]⟩
   ·simp [e0,e1,e2,e3,e4,e18,e19,e20,e21,e22,w7];refine⟨fun k1 k2=>absurd ⟨k1,k2⟩ c2,fun _=> ?_⟩;rw [hsame1 c2];refine⟨fun k1 k2=> ?_,fun k=>by rw [hsame2 (fun hh=>by have:=k hh.1;omega)]⟩;refine ax.any (hr2 k1 k2) ?_;rintro v h' ⟨rfl,rfl⟩;simp
  ·simp [e0,e1,e2,e3,e4,e18,e19,e20,e21,e22,w7];refine⟨fun k1 k2=>absurd ⟨k1,k2⟩ c1,fun _=> ?_⟩;rw [hsame c1];refine⟨fun k1 k2=> ?_,fun k=> ?_⟩
   ·refine ax.any (hr1 k1 k2) ?_;rintro v h' ⟨rfl,rfl⟩;simp [e0,e1,e2,e3,e4,e18,e19,e20,e21,e22,w7];refine⟨fun k1 k2=> ?_,fun k=>by rw [hsame2 (fun hh=>by have:=k hh.1;omega)]⟩;refine ax.any (hr2 k1 k2) ?_;rintro v h' ⟨rfl,rfl⟩;simp
   ·rw [hsame1 (fun hh=>by have:=k hh.1;omega)];refine⟨fun k1 k2=> ?_,fun k=>by rw [hsame2 (fun hh=>by have:=k hh.1;omega)]⟩;refine ax.any (hr2 k1 k2) ?_;rintro v h' ⟨rfl,rfl⟩;simp
theorem vg (b:Nat)(hb:b<h.length)(N:Nat)(hl:N≤1000000)(S:List (List AV))(hn: ∀e∈S,e.length=5)(f:FuncId)(caps:List AV)(c:List AV→List AV→Int)(o:SWO (fun x y=>decide (c x y<0)))
  (hc: ∀x∈S,∀y∈S,∀o,aa Tryz.prog gl f (.agg x:: .agg y::caps) (h.set b o) fun v h'=>v= .int .i64 (c x y)∧h'=h.set b o): ∀(n:Nat) (P X Y Q:List (List AV)) (a m z:Nat),X.length+Y.length≤n→0<X.length→0<Y.length→
  pU (fun x y=>decide (c x y<0)) X→pU (fun x y=>decide (c x y<0)) Y→P.length=a→a+X.length=m→m+Y.length=z→N=z+Q.length→(∀e∈P++(X++(Y++Q)),e∈S)→
  aa Tryz.prog gl 136 [.own b 0 N,.int .i64 a,.int .i64 m,.int .i64 z,.fn (.func f) [] caps] (h.set b (.cells 5 (P++(X++(Y++Q)))))
   fun v h'=>v= .tup []∧h'=h.set b (.cells 5 (P++(aQ (fun x y=>decide (c x y<0)) (X++Y)++Q))):=by
 intro n
 induction n with
 | zero=>intro P X Y Q a m z h1 h2;omega
 | succ n ih=>
  intro P X Y Q a m z hXY hX hY sX sY ha hm hz hN hS;by_cases hX1:X.length=1
  ·exact DC b hb N hl S hn f caps c o hc P X Y Q a m z hX1 hY sX sY ha hm hz hN hS
  by_cases hY1:Y.length=1
  ·exact DD b hb N hl S hn f caps c o hc P X Y Q a m z hX1 hX hY1 sX sY ha hm hz hN hS
  exact Dz b hb N hl S hn f caps c o hc n ih P X Y Q a m z hXY hX1 hY1 hX hY sX sY ha hm hz hN hS
end Go.Proofs.YtkpioblbeiaefaaGreat
