/- Part 24 of the lemmas below the statements of this seat: StableTrip, SortExc, TripH, TollAllR. -/
import Derived.Test.YtkpioblbeiaefaaGreatPe22
import Derived.Test.YtkpioblbeiaefaaGreatPe23
set_option linter.unusedSectionVars false
set_option linter.unusedVariables false
set_option linter.unusedSimpArgs false
set_option linter.unnecessarySimpa false
set_option maxRecDepth 100000
section
namespace Go.Proofs.YtkpioblbeiaefaaGreat
open Go Go.Abs Go.Toll
variable {gl : aM} {h : ae}
theorem lg (b:Nat)(P X Q:List (List AV))(a z N:Nat)(hP:P.length=a)(hz:a+X.length=z)(hN:N=z+Q.length)(hl:N≤1000000)(hb:b<h.length)(S:List (List AV))(hn: ∀e∈S,e.length=5)(hS: ∀e∈P++(X++Q),e∈S)(f:FuncId)(caps:List AV)(c:List AV→List AV→Int)
  (hc: ∀x∈S,∀y∈S,∀o,aa Tryz.prog gl f (.agg x:: .agg y::caps) (h.set b o) fun v h'=>v= .int .i64 (c x y)∧h'=h.set b o):
  aa Tryz.prog gl 135 [.own b 0 N,.int .i64 a,.int .i64 z,.fn (.func f) [] caps] (h.set b (.cells 5 (P++(X++Q))))
   fun v h'=>v= .tup []∧h'=h.set b (.cells 5 (P++(aP (fun x y=>decide (c x y<0)) X++Q))):=by
 have hlen:(P++X++Q).length=N:=by simp;omega
 have:=ut (gl:=gl) (h:=h) b P X Q hb (fun e he=>hn e (hS e (by simpa using he))) (by omega) f caps c (fun x hx y hy o=>hc x (hS x (by simp [hx])) y (hS y (by simp [hy])) o);rw [hlen,hP,hz] at this;simpa using this
set_option maxHeartbeats 4000000 in
theorem IE (b:Nat)(seg:List (List AV))(N:Nat)(hN:seg.length=N)(hl:N≤400000)(hb:b<h.length)(hn: ∀e∈seg,e.length=5)(f:FuncId)(caps:List AV)(c:List AV→List AV→Int)(o:SWO (fun x y=>decide (c x y<0)))
  (hc: ∀x∈seg,∀y∈seg,∀o,aa Tryz.prog gl f (.agg x:: .agg y::caps) (h.set b o) fun v h'=>v= .int .i64 (c x y)∧h'=h.set b o):
  aa Tryz.prog gl 102 [.own b 0 N,.int .i64 N,.fn (.func f) [] caps] (h.set b (.cells 5 seg))
   fun v h'=>v= .tup []∧h'=h.set b (.cells 5 (aP (fun x y=>decide (c x y<0)) seg)):=by
 refine aa.body Tryz.f102 _ mixed Tryz.func102 rfl rfl (by simp [Tryz.ntmps102]) ?_;simp;refine aT.up mixed N (fun k fr h'=> ∃p q:Nat,p=20*k∧q=20*k+20∧p≤N∧fr 0= .own b 0 N∧fr 1= .int .i64 N∧fr 2= .fn (.func f) [] caps∧fr 6= .int .i64 (20:Nat)∧fr 7= .int .i64 p∧fr 8= .int .i64 q∧
  h'=h.set b (.cells 5 (yE (fun x y=>decide (c x y<0)) 20 seg k++seg.drop (20*k)))) 0 (by omega) ⟨0,20,by omega,by omega,by omega,by simp,by simp,by simp,by simp,by simp,by simp,by simp [yE]⟩ ?_
 rintro k fr h' hk ⟨p,q,hp,hq,hpN,e0,e1,e2,e6,e7,e8,rfl⟩;have hhl:(yE (fun x y=>decide (c x y<0)) 20 seg k).length=p:=by rw [um (by omega),hp]
 rcases zN N q with hlt | hge
 ·have n1: ¬q≤N:=by omega
  simp [e0,e1,e2,e6,e7,e8,n1];have:=lg (gl:=gl) (h:=h) b (yE (fun x y=>decide (c x y<0)) 20 seg k) (seg.drop (20*k)) [] p N N hhl (by simp;omega) (by simp) (by omega) hb seg hn (fun e he=>by
   simp at he;rcases he with he | he
   ·exact ze he
   ·exact List.mem_of_mem_drop he) f caps c hc
  simp at this;refine ax.any this ?_;rintro v h' ⟨rfl,rfl⟩;rw [GV (by omega) (by simp;omega)];simp [e0,e1,e2,e6,e7,e8];refine aT.down mixed (fun k fr h'=> ∃B:Nat,k=N - B∧0<B∧B≤N+N+20∧fr 0= .own b 0 N∧fr 1= .int .i64 N∧fr 2= .fn (.func f) [] caps∧fr 6= .int .i64 B∧h'=h.set b (.cells 5 (Dv (fun x y=>decide (c x y<0)) B seg))) (N - 20) ⟨20,rfl,by omega,by omega,by simp [e0],by simp [e1],by simp [e2],by simp [e6],rfl⟩ ?_;clear this e0 e1 e2 e6 e7 e8 hhl;rintro k fr h' ⟨B,rfl,hB,hBN,e0,e1,e2,e6,rfl⟩;rcases zN B N with hlt2 | hge2
  ·have w1:IntKind.i64.wrap (2*(B:Int))=(2*B:Nat):=by rw [aD (by omega) (by omega)];omega
   obtain⟨B2,hB2⟩: ∃B2,2*B=B2:=⟨_,rfl⟩;rw [hB2] at w1;simp [e0,e1,e2,e6,hlt2,w1];refine aT.down mixed (fun d fr h'=> ∃k p q:Nat,d=N - p∧p=B2*k∧q=p+B2∧p≤N∧fr 0= .own b 0 N∧fr 1= .int .i64 N∧fr 2= .fn (.func f) [] caps∧fr 6= .int .i64 B∧fr 7= .int .i64 p∧fr 8= .int .i64 q∧
    h'=h.set b (.cells 5 (yE (fun x y=>decide (c x y<0)) B2 seg k++Dv (fun x y=>decide (c x y<0)) B (seg.drop (B2*k))))) N ⟨0,0,B2,by omega,by omega,by omega,by omega,by simp [e0],by simp [e1],by simp [e2],by simp [e6],by simp,by simp,by simp [yE]⟩ ?_
   clear e0 e1 e2 e6;rintro d fr h' ⟨k,p,q,rfl,hp,hq,hpN,e0,e1,e2,e6,e7,e8,rfl⟩;have hhl:(yE (fun x y=>decide (c x y<0)) B2 seg k).length=p:=by rw [um (by omega),hp]
   have w2:IntKind.i64.wrap ((p:Int)+B)=(p+B:Nat):=by rw [aD (by omega) (by omega)];omega
   obtain⟨m,hm⟩: ∃m,p+B=m:=⟨_,rfl⟩;rw [hm] at w2;have hmh: ∀e,e∈yE (fun x y=>decide (c x y<0)) B2 seg k→e∈seg:=fun e he=>ze he;rcases zN N q with hlt3 | hge3
   ·have n1: ¬q≤N:=by omega
    have hrl:(seg.drop (B2*k)).length=N - p:=by simp;omega
    have hfin:yE (fun x y=>decide (c x y<0)) B2 seg k++aP (fun x y=>decide (c x y<0)) (seg.drop (B2*k))=Dv (fun x y=>decide (c x y<0)) B2 seg:=GV (by omega) (by omega);have w3:IntKind.i64.wrap ((B:Int)*2)=B2:=by rw [aD (by omega) (by omega)];omega
    have hmr: ∀e,e∈seg.drop (B2*k)→e∈seg:=fun e he=>List.mem_of_mem_drop he;generalize yE (fun x y=>decide (c x y<0)) B2 seg k=H at*;generalize seg.drop (B2*k)=R at*;rcases zN m N with hlt4 | hge4
    ·simp [e0,e1,e2,e6,e7,e8,n1,w2,hlt4];have hl1:(R.take B).length=B:=by simp;omega
     have hl2:(R.drop B).length=N - m:=by simp;omega
     have:=tY (gl:=gl) (h:=h) b hb N (by omega) seg hn f caps c o hc (B+N) H (aP (fun x y=>decide (c x y<0)) (R.take B)) (aP (fun x y=>decide (c x y<0)) (R.drop B)) [] p m N (by simp only [bq];omega) (by simp only [bq];omega) (by simp only [bq];omega) (ib o _) (ib o _) hhl (by simp only [bq];omega) (by simp only [bq];omega) (by simp) (fun e he=>by
      simp [dL] at he;rcases he with he | he | he
      ·exact hmh e he
      ·exact hmr e (List.mem_of_mem_take he)
      ·exact hmr e (List.mem_of_mem_drop he))
     rw [Nn o,List.take_append_drop,List.append_nil,List.append_nil,hfin] at this;rw [ul hB,yZ hB (show (R.drop B).length≤B by omega)];refine ax.any this ?_;rintro v h' ⟨rfl,rfl⟩;simp [e0,e1,e2,e6,w3,w1];exact⟨N - B2,by omega,B2,rfl,by omega,by omega,rfl,rfl⟩
    ·have n2: ¬m<N:=by omega
     simp [e0,e1,e2,e6,e7,e8,n1,w2,n2,w3,w1];exact⟨N - B2,by omega,B2,rfl,by omega,by omega,rfl,by rw [yZ hB (by omega),hfin]⟩
   ·simp [e0,e1,e2,e6,e7,e8,hge3,w2];have hrl:(seg.drop (B2*k)).length=N - p:=by simp;omega
    have hnx:yE (fun x y=>decide (c x y<0)) B2 seg (k+1)=yE (fun x y=>decide (c x y<0)) B2 seg k++aP (fun x y=>decide (c x y<0)) ((seg.drop (B2*k)).take B2):=rfl;have hdr:seg.drop (B2*(k+1))=(seg.drop (B2*k)).drop B2:=by rw [List.drop_drop,Nat.mul_succ]
    have hkk:B2*(k+1)=q:=by rw [Nat.mul_succ];omega
    have hmr: ∀e,e∈seg.drop (B2*k)→e∈seg:=fun e he=>List.mem_of_mem_drop he;have w4:IntKind.i64.wrap ((q:Int)+B2)=(q+B2:Nat):=by rw [aD (by omega) (by omega)];omega
    generalize yE (fun x y=>decide (c x y<0)) B2 seg k=H at*;generalize seg.drop (B2*k)=R at*;have hl1:(R.take B).length=B:=by simp;omega
    have hl2:((R.drop B).take B).length=B:=by simp;omega
    have hl3:(Dv (fun x y=>decide (c x y<0)) B (R.drop B2)).length=N - q:=by rw [z8 hB _ _ (Nat.le_refl _)];simp;omega
    have:=tY (gl:=gl) (h:=h) b hb N (by omega) seg hn f caps c o hc (B+B) H (aP (fun x y=>decide (c x y<0)) (R.take B)) (aP (fun x y=>decide (c x y<0)) ((R.drop B).take B)) (Dv (fun x y=>decide (c x y<0)) B (R.drop B2)) p m q (by simp only [bq];omega) (by simp only [bq];omega) (by simp only [bq];omega) (ib o _) (ib o _) hhl (by simp only [bq];omega) (by simp only [bq];omega) (by rw [hl3];omega) (fun e he=>by
      simp only [List.mem_append,dL,Lt hB _ _ (Nat.le_refl _)] at he;rcases he with he | he | he | he
      ·exact hmh e he
      ·exact hmr e (List.mem_of_mem_take he)
      ·exact hmr e (List.mem_of_mem_drop (List.mem_of_mem_take he))
      ·exact hmr e (List.mem_of_mem_drop he))
    rw [Np o,hB2] at this;rw [Qw hB,hB2];refine ax.any this ?_;rintro v h' ⟨rfl,rfl⟩;simp [e0,e1,e2,e6,e7,e8,w1,w4];refine⟨N - q,by omega,k+1,q,rfl,hkk.symm,hge3,rfl,?_⟩;rw [hnx,hdr];simp
  ·have n1: ¬B<N:=by omega
   simp [e0,e1,e2,e6,n1];rw [yZ hB (by omega)]
 ·simp [e0,e1,e2,e6,e7,e8,hge];have hl1:((seg.drop (20*k)).take 20).length=20:=by simp;omega
  have hdr:seg.drop (20*k)=(seg.drop (20*k)).take 20++seg.drop (20*(k+1)):=by
   have:=(List.take_append_drop 20 (seg.drop (20*k))).symm;rw [List.drop_drop] at this;rwa [Nat.mul_succ]
  have:=lg (gl:=gl) (h:=h) b (yE (fun x y=>decide (c x y<0)) 20 seg k) ((seg.drop (20*k)).take 20) (seg.drop (20*(k+1))) p q N hhl (by omega) (by simp;omega) (by omega) hb seg hn (fun e he=>by
   simp only [List.mem_append] at he;rcases he with he | he | he
   ·exact ze he
   ·exact List.mem_of_mem_drop (List.mem_of_mem_take he)
   ·exact List.mem_of_mem_drop he) f caps c hc
  rw [←hdr] at this;refine ax.any this ?_;rintro v h' ⟨rfl,rfl⟩;have w4:IntKind.i64.wrap ((q:Int)+20)=(q+20:Nat):=by rw [aD (by omega) (by omega)];omega
  simp [e0,e1,e2,e6,e7,e8,w4];refine⟨k+1,by omega,by omega,by omega,by omega,?_⟩;simp [yE]
theorem yA (b:Nat)(seg:List (List AV))(N:Nat)(hN:seg.length=N)(hl:N≤400000)(hb:b<h.length)(hn: ∀e∈seg,e.length=5)(f:FuncId)(caps:List AV)(c:List AV→List AV→Int)(o:SWO (fun x y=>decide (c x y<0)))
  (hc: ∀x∈seg,∀y∈seg,∀o,aa Tryz.prog gl f (.agg x:: .agg y::caps) (h.set b o) fun v h'=>v= .int .i64 (c x y)∧h'=h.set b o):
  aa Tryz.prog gl 68 [.own b 0 N,.fn (.func f) [] caps] (h.set b (.cells 5 seg))
   fun v h'=>v= .tup []∧h'=h.set b (.cells 5 (aP (fun x y=>decide (c x y<0)) seg)):=by
 refine aa.body Tryz.f68 _ mixed Tryz.func68 rfl rfl (by simp [Tryz.ntmps68]) ?_;simp;refine ax.any (IE b seg N hN hl hb hn f caps c o hc) ?_;rintro v h' ⟨rfl,rfl⟩;simp
theorem vQ (b:Nat)(pre seg post:List (List AV))(hb:b<h.length)(hn: ∀e∈pre++seg++post,e.length=2)(hl:(pre++seg++post).length≤1000000)(f:FuncId)(caps:List AV)(c:List AV→List AV→Int)
  (hc: ∀x∈seg,∀y∈seg,∀o,aa Tryz.prog gl f (.agg x:: .agg y::caps) (h.set b o) fun v h'=>v= .int .i64 (c x y)∧h'=h.set b o):
  aa Tryz.prog gl 137 [.own b 0 (pre++seg++post).length,.int .i64 pre.length,.int .i64 (pre.length+seg.length:Nat),.fn (.func f) [] caps] (h.set b (.cells 2 (pre++seg++post)))
   fun v h'=>v= .tup []∧h'=h.set b (.cells 2 (pre++aP (fun x y=>decide (c x y<0)) seg++post)):=by
 refine aa.body Tryz.f137 _ mixed Tryz.func137 rfl rfl (by simp [Tryz.ntmps137]) ?_;have hl':pre.length+seg.length+post.length≤1000000:=by simpa [Nat.add_assoc] using hl
 have ew:=aC (i:=pre.length) (by omega);simp [ew];refine aT.up mixed (seg.length+1) (fun i fr h'=>fr 0= .own b 0 (pre++seg++post).length∧fr 1= .int .i64 pre.length∧fr 2= .int .i64 (pre.length+seg.length:Nat)∧fr 3= .fn (.func f) [] caps∧fr 8= .int .i64 (pre.length+i:Nat)∧1≤i∧
  h'=h.set b (.cells 2 (pre++(aP (fun x y=>decide (c x y<0)) (seg.take i)++seg.drop i)++post))) 1 (by omega) ⟨by simp,by simp,by simp,by simp,by simp,by omega,?_⟩ ?_
 ·cases seg with
  | nil=>simp [aP]
  | cons x seg=>simp [aP,iL,fA]
 rintro i fr h' hi ⟨e0,e1,e2,e3,e8,h1i,rfl⟩;rcases zN i seg.length with hlt | hge
 ·obtain⟨x,hg,hg'⟩:=aN hlt;have hlt2:((pre.length:Int)+i)<pre.length+seg.length:=by omega
  simp [e0,e1,e2,e3,e8,hlt,hlt2];have hil:(aP (fun x y=>decide (c x y<0)) (seg.take i)).length=i:=by rw [bq];simp;omega
  generalize hL:aP (fun x y=>decide (c x y<0)) (seg.take i)=L at hil;refine aT.down mixed (fun j fr h'=>fr 0= .own b 0 (pre++seg++post).length∧fr 1= .int .i64 pre.length∧fr 2= .int .i64 (pre.length+seg.length:Nat)∧fr 3= .fn (.func f) [] caps∧fr 8= .int .i64 (pre.length+i:Nat)∧fr 9= .int .i64 (pre.length+j:Nat)∧j≤i∧
   fA (fun x y=>decide (c x y<0)) x L i=fA (fun x y=>decide (c x y<0)) x L j∧
   ∃all,h'=h.set b (.cells 2 all)∧all=sinkB pre L (seg.drop (i+1)++post) x j) i ⟨by simp [e0],by simp [e1],by simp [e2],by simp [e3],by simp [e8],by simp,by omega,rfl,_,rfl,?_⟩ ?_
  ·rw [bv hg];simp [sinkB,←hil]
  rintro j fr h' ⟨e0,e1,e2,e3,e8,e9,hj,hK,all,rfl,hall⟩;have hal:all.length=pre.length+seg.length+post.length:=by rw [hall,lL];simp;omega
  rcases Nat.eq_zero_or_pos j with rfl | hpos
  ·simp [e0,e1,e2,e3,e8,e9,hb];refine⟨by decide,ax.pure (.int .i64 0) (fun hg=>by cases hg) ?_⟩;have ewi:=aC (i:=pre.length+i) (by omega);simp at ewi;simp [e0,e1,e2,e3,e8,e9,ewi];refine⟨i+1,by omega,by omega,by simp;omega,?_⟩;rw [eu _ hg,hL,hall,iL,hil,hK];simp [sinkB,fA]
  obtain⟨k,rfl⟩: ∃k,j=k+1:=⟨j - 1,by omega⟩;have hgx:=FV (pre:=pre) (l:=L) (post:=seg.drop (i+1)++post) (x:=x) (j:=k+1) (by omega);have hgy:=FW (pre:=pre) (l:=L) (post:=seg.drop (i+1)++post) (x:=x) (j:=k) (by omega);obtain⟨y,hy,hy'⟩:=aN (l:=L) (i:=k) (by omega);rw [←hall] at hgx hgy;rw [hy] at hgy;have e9':fr 9= .int .i64 (pre.length+k+1:Nat):=e9;have hgx':all[pre.length+k+1]? =some x:=hgx;have hsw:=uP (pre:=pre) (post:=seg.drop (i+1)++post) (x:=x) hy;rw [←hall] at hsw;have hsw':(all.set (pre.length+k+1) y).set (pre.length+k) x=sinkB pre L (seg.drop (i+1)++post) x k:=hsw;generalize hp:pre.length+k=p at e9' hgx' hgy hsw';clear hgx e9 hsw;have p1:((pre.length:Int))<p+1:=by omega
  have p2:p+1<all.length:=by omega
  have wp:IntKind.i64.wrap (p:Int)=p:=aD (by omega) (by omega);have hxO:=hn x (by simp [zF hg]);have hx5:x.length=2:=hxO;have hys:y∈seg:=List.mem_of_mem_take ((dL _).1 (hL▸zF hy));have hxs:x∈seg:=zF hg;have hyO:=hn y (by simp [hys]);have hy5:y.length=2:=hyO;simp [e0,e1,e2,e3,e8,e9',hgx',hgy,p1,hb,wp];refine⟨by decide,⟨by omega,by omega,by omega⟩,⟨by omega,by omega⟩,⟨by omega,by omega⟩,⟨by omega,by omega⟩,?_⟩;rw [zG (by omega),zG (by omega)];refine ax.pure _ (fun _=>hc x hxs y hys _) ?_;have tx:x.take 2=x:=zG (by omega);have ty:y.take 2=y:=zG (by omega);have dx:x.drop 2=[]:=zH (by omega);have dy:y.drop 2=[]:=zH (by omega);have ewi:=aC (i:=pre.length+i) (by omega);simp at ewi;simp [e0,e1,e2,e3,e8,e9',hgx',hgy,p1,hb,wp,hx5,hy5,tx,ty,dx,dy,hsw',ewi];refine⟨fun hlt0=>⟨by decide,?_⟩,fun hge0=>⟨i+1,by omega,by omega,by simp;omega,by omega,?_⟩⟩
  ·repeat refine And.intro (by omega) ?_
   refine⟨k,by omega,by omega,by omega,?_,rfl⟩;rw [hK,fA,hy];simp [hlt0]
  ·have hk2:fA (fun x y=>decide (c x y<0)) x L i=k+1:=by
    rw [hK,fA,hy];simp [show ¬c x y<0 by omega]
   rw [eu _ hg,hL,hall,iL,hil,hk2];simp [sinkB]
 ·have hge2: ¬((pre.length:Int)+i)<pre.length+seg.length:=by omega
  simp [e0,e1,e2,e3,e8,hge2];rw [zG (by omega),zH (by omega)];rfl
theorem FY (b:Nat)(seg:List (List AV))(hb:b<h.length)(hn: ∀e∈seg,e.length=2)(hl:seg.length<20)(f:FuncId)(caps:List AV)(c:List AV→List AV→Int)
  (hc: ∀x∈seg,∀y∈seg,∀o,aa Tryz.prog gl f (.agg x:: .agg y::caps) (h.set b o) fun v h'=>v= .int .i64 (c x y)∧h'=h.set b o):
  aa Tryz.prog gl 105 [.own b 0 seg.length,.int .i64 seg.length,.fn (.func f) [] caps] (h.set b (.cells 2 seg))
   fun v h'=>v= .tup []∧h'=h.set b (.cells 2 (aP (fun x y=>decide (c x y<0)) seg)):=by
 refine aa.body Tryz.f105 _ mixed Tryz.func105 rfl rfl (by simp [Tryz.ntmps105]) ?_;have h1: ¬(20:Int)≤seg.length:=by omega
 have h2: ¬(20:Int)<seg.length:=by omega
 simp;refine aT.up mixed 0 (fun i fr h'=>fr 0= .own b 0 seg.length∧fr 1= .int .i64 seg.length∧fr 2= .fn (.func f) [] caps∧fr 6= .int .i64 20∧fr 7= .int .i64 0∧fr 8= .int .i64 20∧h'=h.set b (.cells 2 seg)) 0 (by omega) ⟨by simp,by simp,by simp,by simp,by simp,by simp,rfl⟩ ?_;rintro i fr h' hi ⟨e0,e1,e2,e6,e7,e8,rfl⟩;simp [e0,e1,e2,e6,e7,e8,h1];have:=vQ (gl:=gl) b [] seg [] hb (by simpa using hn) (by simp;omega) f caps c hc;simp at this;refine ax.any this ?_;rintro v h' ⟨rfl,rfl⟩;simp [e0,e1,e2,e6,e7,e8];refine aT.up mixed 0 (fun i fr h'=>fr 1= .int .i64 seg.length∧fr 6= .int .i64 20∧h'=h.set b (.cells 2 (aP (fun x y=>decide (c x y<0)) seg))) 0 (by omega) ⟨by simp [e1],by simp [e6],rfl⟩ ?_;rintro i fr h' hi ⟨e1,e6,rfl⟩;simp [e1,e6,h2]
theorem wN (b:Nat)(seg:List (List AV))(hb:b<h.length)(hn: ∀e∈seg,e.length=2)(hl:seg.length<20)(f:FuncId)(caps:List AV)(c:List AV→List AV→Int)
  (hc: ∀x∈seg,∀y∈seg,∀o,aa Tryz.prog gl f (.agg x:: .agg y::caps) (h.set b o) fun v h'=>v= .int .i64 (c x y)∧h'=h.set b o):
  aa Tryz.prog gl 73 [.own b 0 seg.length,.fn (.func f) [] caps] (h.set b (.cells 2 seg))
   fun v h'=>v= .tup []∧h'=h.set b (.cells 2 (aP (fun x y=>decide (c x y<0)) seg)):=by
 refine aa.body Tryz.f73 _ mixed Tryz.func73 rfl rfl (by simp [Tryz.ntmps73]) ?_;simp;refine ax.any (FY b seg hb hn hl f caps c hc) ?_;rintro v h' ⟨rfl,rfl⟩;simp
theorem qh (f:FuncId)(caps:List AV):
  aa Tryz.prog gl 137 [.nil,.int .i64 0,.int .i64 0,.fn (.func f) [] caps] h fun v h'=>v= .tup []∧h'=h:=by
 refine aa.body Tryz.f137 _ mixed Tryz.func137 rfl rfl (by simp [Tryz.ntmps137]) ?_;simp;refine aT.up mixed 0 (fun i fr h'=>fr 2= .int .i64 0∧fr 8= .int .i64 (IntKind.i64.wrap 1)∧h'=h) 0 (by omega) ⟨by simp,by simp,rfl⟩ ?_;rintro i fr h' hi ⟨e2,e8,rfl⟩;simp [e2,e8,aD]
theorem BQ (f:FuncId)(caps:List AV):
  aa Tryz.prog gl 105 [.nil,.int .i64 0,.fn (.func f) [] caps] h fun v h'=>v= .tup []∧h'=h:=by
 refine aa.body Tryz.f105 _ mixed Tryz.func105 rfl rfl (by simp [Tryz.ntmps105]) ?_;simp;refine aT.up mixed 0 (fun i fr h'=>fr 0= .nil∧fr 1= .int .i64 0∧fr 2= .fn (.func f) [] caps∧fr 6= .int .i64 20∧fr 7= .int .i64 0∧fr 8= .int .i64 20∧h'=h) 0 (by omega) ⟨by simp,by simp,by simp,by simp,by simp,by simp,rfl⟩ ?_;rintro i fr h' hi ⟨e0,e1,e2,e6,e7,e8,rfl⟩;simp [e0,e1,e2,e6,e7,e8];refine ax.pure _ (fun _=>qh f caps) ?_;simp [e0,e1,e2,e6,e7,e8];refine aT.up mixed 0 (fun i fr h''=>fr 1= .int .i64 0∧fr 6= .int .i64 20∧h''=h') 0 (by omega) ⟨by simp [e1],by simp [e6],rfl⟩ ?_;rintro i fr h' hi ⟨e1,e6,rfl⟩;simp [e1,e6]
theorem uh (f:FuncId)(caps:List AV):
  aa Tryz.prog gl 73 [.nil,.fn (.func f) [] caps] h fun v h'=>v= .tup []∧h'=h:=by
 refine aa.body Tryz.f73 _ mixed Tryz.func73 rfl rfl (by simp [Tryz.ntmps73]) ?_;simp;refine ax.pure _ (fun _=>BQ f caps) ?_;simp
set_option maxHeartbeats 2000000 in
theorem Gc (a b:bQ)(ha:a.stops≠[])(hb:b.stops≠[]):aa Tryz.prog gl 69 [.agg (aB a),.agg (aB b)] h fun v h'=>v= .int .i64 (qH a b)∧h'=h:=by
 refine aa.data (by simp) (aa.body Tryz.f69 _ mixed Tryz.func69 rfl rfl (by simp [Tryz.ntmps69]) ?_);obtain⟨a0,ra,ea⟩:=List.exists_cons_of_ne_nil ha;obtain⟨b0,rb,eb⟩:=List.exists_cons_of_ne_nil hb;have hc:qH a b=df [iw a0.time b0.time,jH a.id b.id]:=by rw [qH,Ca,Ca,ea,eb];rfl
 obtain⟨c1,h1⟩: ∃c,c=iw a0.time b0.time:=⟨_,rfl⟩;obtain⟨c2,h2⟩: ∃c,c=jH a.id b.id:=⟨_,rfl⟩;rw [hc,←h1,←h2];simp [aB,ea,eb,af];refine⟨by decide,?_⟩;refine ax.pure (.int .i64 c1) (fun _=>by rw [h1];exact Gz a0.time b0.time) ?_;simp;refine ax.pure (.int .i64 c2) (fun _=>by rw [h2];exact zW a.id b.id) ?_;simp;refine ax.pure _ (fun _=>EP (h.length+2) [c1,c2] (by simp) (by simp)) ?_;simp
theorem Gd (a b:mP):aa Tryz.prog gl 74 [.agg (bf a),.agg (bf b)] h fun v h'=>v= .int .i64 (zV a b)∧h'=h:=by
 refine aa.data (by simp) (aa.body Tryz.f74 _ mixed Tryz.func74 rfl rfl (by simp [Tryz.ntmps74]) ?_);simp [bf];refine ax.pure _ (fun _=>zW a.id b.id) ?_;simp [zV]
theorem KO (l:List bQ): ∀e∈l.map aB,e.length=5:=by
 intro e he;obtain⟨s,_,rfl⟩:=List.mem_map.1 he;rfl
theorem Oz (l:List mP): ∀e∈l.map bf,e.length=2:=by
 intro e he;obtain⟨s,_,rfl⟩:=List.mem_map.1 he;rfl
theorem Ku {lo:Nat} {x:AV} (l:List bQ)(hx:Ls 5 lo h x (l.map aB))(hne: ∀a∈l,a.stops≠[])(hl:l.length≤400000):
  aa Tryz.prog gl 68 [x,.fn (.func 69) [] []] h fun v h'=>v= .tup []∧Ls 5 lo h' x ((gP l).map aB)∧h'.length=h.length∧ ∀(b:Nat) (o:bU),h[b]? =some o→(∀off len,x≠ .own b off len)→h'[b]? =some o:=by
 rcases hx.1 with⟨rfl,he⟩ | ⟨b,rfl,hlb,hb⟩
 ·have he:l=[]:=by simpa using he
  subst he;refine (sS _ _).mono ?_;rintro v h' ⟨rfl,rfl⟩;exact⟨rfl,hx,rfl,fun _ _ ho _=>ho⟩
 ·have hbl:=aK hb;have hset:h.set b (.cells 5 (l.map aB))=h:=by obtain⟨_,hg⟩:=zA.1 hb;rw [←hg];exact List.set_getElem_self ..
  have hs:=yA (gl:=gl) (h:=h) b (l.map aB) l.length (by simp) hl hbl (KO l) 69 [] wH J5.swo (by
   intro x hx y hy o;obtain⟨a,hma,rfl⟩:=List.mem_map.1 hx;obtain⟨c,hmc,rfl⟩:=List.mem_map.1 hy;rw [Ep (hne a hma) (hne c hmc)];exact Gc a c (hne a hma) (hne c hmc))
  have hsm:aP (fun x y=>decide (wH x y<0)) (l.map aB)=(gP l).map aB:=by
   have e: ∀r acc:List bQ,(∀a∈r,a.stops≠[])→(∀a∈acc,a.stops≠[])→(r.map aB).foldl (fun acc x=>iL (fun x y=>decide (wH x y<0)) x acc) (acc.map aB)=(r.foldl (fun acc x=>iL (fun x y=>decide (qH x y<0)) x acc) acc).map aB:=by
    intro r
    induction r with
    | nil=>intro acc _ _;rfl
    | cons x r ih=>
     intro acc h1 h2;have hk: ∀k:Nat,fA (fun x y=>decide (wH x y<0)) (aB x) (acc.map aB) k=fA (fun x y=>decide (qH x y<0)) x acc k:=by
      intro k
      induction k with
      | zero=>rfl
      | succ k ihk=>
       rw [fA,fA,List.getElem?_map]
       cases hy:acc[k]? with
       | none=>rfl
       | some y=>
        simp only [Option.map_some];rw [Ep (h1 x (by simp)) (h2 y (zF hy)),ihk]
     have hi:iL (fun x y=>decide (wH x y<0)) (aB x) (acc.map aB)=(iL (fun x y=>decide (qH x y<0)) x acc).map aB:=by
      rw [iL,iL,List.length_map,hk,List.map_append,List.map_cons,List.map_take,List.map_drop]
     rw [List.map_cons,List.foldl_cons,List.foldl_cons,hi];refine ih _ (fun a ha=>h1 a (by simp [ha])) fun a ha=> ?_;rcases (Hy _).1 ha with rfl | ha
     ·exact h1 _ (by simp)
     ·exact h2 a ha
   have:=e l [] hne (by simp);simpa [aP,gP] using this
  rw [hset,hsm] at hs;rw [List.length_map];refine hs.mono ?_;rintro v h' ⟨rfl,rfl⟩;refine⟨rfl,⟨.inr ⟨b,by simp [gP,bq],hlb,zI hbl⟩,KO _⟩,by simp,fun b' o ho hne=> ?_⟩;rw [zJ (by rintro rfl;exact hne _ _ rfl)];exact ho
theorem Nr {lo:Nat} {x:AV} (l:List mP)(hx:Ls 2 lo h x (l.map bf))(hl:l.length<20):
  aa Tryz.prog gl 73 [x,.fn (.func 74) [] []] h fun v h'=>v= .tup []∧Ls 2 lo h' x ((jb l).map bf)∧h'.length=h.length∧ ∀(b:Nat) (o:bU),h[b]? =some o→(∀off len,x≠ .own b off len)→h'[b]? =some o:=by
 rcases hx.1 with⟨rfl,he⟩ | ⟨b,rfl,hlb,hb⟩
 ·have he:l=[]:=by simpa using he
  subst he;refine (uh _ _).mono ?_;rintro v h' ⟨rfl,rfl⟩;exact⟨rfl,hx,rfl,fun _ _ ho _=>ho⟩
 ·have hbl:=aK hb;have hset:h.set b (.cells 2 (l.map bf))=h:=by obtain⟨_,hg⟩:=zA.1 hb;rw [←hg];exact List.set_getElem_self ..
  have hs:=wN (gl:=gl) (h:=h) b (l.map bf) hbl (Oz l) (by simpa using hl) 74 [] Ve (by
   intro x hx y hy o;obtain⟨a,hma,rfl⟩:=List.mem_map.1 hx;obtain⟨c,hmc,rfl⟩:=List.mem_map.1 hy;exact Gd a c)
  have hsm:aP (fun x y=>decide (Ve x y<0)) (l.map bf)=(jb l).map bf:=Ei (lt:=fun x y=>decide (zV x y<0)) (fun _ _=>rfl) l;rw [hset,hsm] at hs;refine hs.mono ?_;rintro v h' ⟨rfl,rfl⟩;refine⟨rfl,⟨.inr ⟨b,by simp [jb,bq],hlb,zI hbl⟩,Oz _⟩,by simp,fun b' o ho hne=> ?_⟩;rw [zJ (by rintro rfl;exact hne _ _ rfl)];exact ho
theorem Lr {n m lo:Nat} {H H':ae} {x y:AV} {es es':List (List AV)} (hx:Ls n lo H x es)(hy:Ls m lo H y es')(hnm:n≠m)(hk: ∀(b:Nat) (o:bU),H[b]? =some o→(∀off len,x≠ .own b off len)→H'[b]? =some o):Ls m lo H' y es':=by
 rcases hy.1 with⟨rfl,he⟩ | ⟨b,rfl,hlb,hb⟩
 ·exact⟨.inl ⟨rfl,he⟩,hy.2⟩
 ·exact⟨.inr ⟨b,rfl,hlb,hk b _ hb (qX hx hb (Ne.symm hnm))⟩,hy.2⟩
set_option maxHeartbeats 2000000 in
theorem yw {lo:Nat} {x y:AV} (l:List bQ)(e:List mP)(hx:Ls 5 lo h x (l.map aB))(hy:Ls 2 lo h y (e.map bf))(hne: ∀a∈l,a.stops≠[])(hl:l.length≤400000)(he:e.length<20):
  aa Tryz.prog gl 38 [x,y] h fun v h'=>v= .tup [x,y]∧Ls 5 lo h' x ((gP l).map aB)∧Ls 2 lo h' y ((jb e).map bf)∧ ∀h0:ae,h0.length≤lo→(∃g,h=h0++g)→ ∃g,h'=h0++g:=by
 refine aa.body Tryz.f38 _ mixed Tryz.func38 rfl rfl (by simp [Tryz.ntmps38]) ?_;have fx:=hx.rs.fix;have fy:=hy.rs.fix;simp [fx,fy];refine ax.any (Ku l hx hne hl) ?_;rintro v h1 ⟨rfl,hx1,hl1,hk1⟩;have hy1:=Lr hx hy (by decide) hk1;have fx1:=hx1.rs.fix;have fy1:=hy1.rs.fix;simp [fx,fy,fx1,fy1];refine ax.any (Nr e hy1 he) ?_;rintro v h2 ⟨rfl,hy2,hl2,hk2⟩;have hx2:=Lr hy1 hx1 (by decide) hk2;have fx2:=hx2.rs.fix;have fy2:=hy2.rs.fix;simp [fx,fy,fx2,fy2];refine⟨hx2,hy2,fun h0 hlo g hg=> ?_⟩;have hb1: ∃g,h1=h0++g:=jv ⟨g,hg⟩ (fun b o hb ho=>hk1 b o ho fun off len e=>by have:=hx.above _ _ _ e;omega) (by rw [hl1,hg];simp);obtain⟨g1,hg1⟩:=hb1;exact jv ⟨g1,hg1⟩ (fun b o hb ho=>hk2 b o ho fun off len e=>by have:=hy1.above _ _ _ e;omega) (by rw [hl2,hl1,hg];simp)
theorem Nz {l:List aA} (hl:l≠[]): ∃(j:Nat) (p:aA),max 0 (IM l)=(j:Int)∧l[j]? =some p∧LK p=yR l:=by
 obtain⟨a,r,rfl⟩:=List.exists_cons_of_ne_nil hl;have h:=PY (l:=a::r);unfold IM yR
 cases hi:(a::r).findIdx? (fun p=> !decide (p.tag=[])) with
 | none=>
  rw [hi] at h;refine⟨0,a,by show max (0:Int) (-1)=0;rfl,rfl,?_⟩;simp only at h ⊢;rw [h];rfl
 | some i=>
  rw [hi] at h;obtain⟨p,h1,h2⟩:=h;refine⟨i,p,by simp only;omega,h1,?_⟩;simp only;rw [h2];rfl
structure nO (l:List aA):Prop where
 ok: ∀p∈l,p.Ok∧p.sources.length≤1000
 id: ∀p∈l,p.id.length≤1000000
 n:l.length<20
structure zt (t:aZ):Prop where
 pt: ∀p∈t.net.pts,p.name.length≤1000000
 p:t.net.pts.length≤1000
 l:t.net.lks.length≤1000
 s:t.sys.length≤1000
theorem D5 {l:List aA} {p:aA} (hp:p∈bT l):p∈l:=by
 have:=lU hp;rw [List.take_length] at this;exact sJ.1 this
theorem M4 (l:List aA):(bT l).length≤l.length:=by
 have:=sj (fH l) (fH l).length;rw [sI] at this;rw [bT,sI];exact this
theorem nO.once {l:List aA} (h:nO l):nO (bT l):=⟨fun p hp=>h.ok p (D5 hp),fun p hp=>h.id p (D5 hp),Nat.lt_of_le_of_lt (M4 l) h.n⟩
theorem nO.of {l:List aA} (h:nO l)(v:Bytes):nO (vW l v):=⟨fun p hp=>h.ok p (Fw hp).1,fun p hp=>h.id p (Fw hp).1,Nat.lt_of_le_of_lt (vX l v) h.n⟩
theorem Qm {t:aZ} {veh:Bytes} {cls:Bytes→Int} {w:dh} (h: ∀x∈w.trips,x.stops≠[])(s:bn): ∀x∈(dE t veh cls w s).trips,x.stops≠[]:=by
 have: ∀x∈(qw t veh cls w s).trips,x.stops≠[]:=by
  unfold qw;split <;> simp only [List.mem_append,List.mem_singleton]
  case h_1=>rintro x (hx | rfl);exact h x hx;simp [p9]
  case h_3=>rintro x (hx | rfl);exact h x hx;simp [p9]
  all_goals exact h
 unfold dE;split <;> exact this
theorem GN {t:aZ} {veh:Bytes} {cls:Bytes→Int}: ∀(l:List bn) (w:dh),(∀x∈w.trips,x.stops≠[])→ ∀x∈(l.foldl (dE t veh cls) w).trips,x.stops≠[]
 | [],w,h=>h
 | s::l,w,h=>GN l _ (Qm h s)
theorem Dp (t:aZ)(l:List aA)(v:Bytes): ∀x∈(bR t l v).trips,x.stops≠[]:=GN _ _ (by simp [cK])
set_option maxHeartbeats 4000000 in
theorem KN (t:aZ)(l:List aA) {x:AV} (hx:Rs 8 h x (l.map aj))(hL:nO l)(hT:zt t)(hE:(oJ t l).out.length<20):
  aa Tryz.prog gl 12 [.agg (ay t),x] h fun v h'=> ∃x y,v= .tup [x,y]∧Ls 5 h.length h' x ((gP (oJ t l).trips).map aB)∧Ls 2 h.length h' y ((jb (oJ t l).out).map bf)∧ ∃g,h'=h++g:=by
 refine aa.body Tryz.f12 _ mixed Tryz.func12 rfl rfl (by simp [Tryz.ntmps12]) ?_;have fx:=hx.fix;simp [fx,ay];refine ax.pure _ (fun _=>Et l (hx.append _) hL.ok hL.n) ?_;have hL1:=hL.once;have hB:=Dp t (bT l) (yR (bT l));have hBl:=wQ t (bT l) (yR (bT l));unfold oJ at hE ⊢;generalize bT l=L at*;have hLn:=hL1.n;have key: ∀fr:aH,fr 2= .ptr h.length 0 0→fr 6= .ro (L.map aj)→True:=fun _ _ _=>trivial;clear key;have fin: ∀ {v':AV} {h2:ae},(∃x y,v'= .tup [x,y]∧Ls 5 (h.length+1) h2 x ((bR t L (yR L)).trips.map aB)∧Ls 2 (h.length+1) h2 y ((bR t L (yR L)).out.map bf)∧ ∃g,h2=(h++[.cells 3 [ay t]])++g)→
   ∃x y,v'= .tup [x,y]∧(x.core=x∧x.gd=true∧x.solid=true∧ai x=[x])∧(y.core=y∧y.gd=true∧y.solid=true∧ai y=[y])∧aa Tryz.prog gl 38 [x,y] h2 fun v h'=>v= .tup [x,y]∧Ls 5 h.length h' x ((gP (bR t L (yR L)).trips).map aB)∧Ls 2 h.length h' y ((jb (bR t L (yR L)).out).map bf)∧ ∃g,h'=h++g:=by
  rintro v' h2 ⟨x,y,rfl,h1,h3,g,rfl⟩;refine⟨x,y,rfl,h1.rs.fix,h3.rs.fix,(yw (lo:=h.length) _ _ (lG h1 (by omega)) (lG h3 (by omega)) hB (by omega) (by omega)).mono ?_⟩;rintro v h' ⟨rfl,q1,q2,q3⟩;exact⟨rfl,q1,q2,q3 h (Nat.le_refl _) ⟨_,by rw [zK]⟩⟩
 have hbld:=Cg (gl:=gl) (h:=h++[.cells 3 [ay t]]) t L (yR L) hL1.ok (by omega) hL1.id hT.pt hT.p hT.l hT.s;simp only [List.length_append,List.length_singleton] at hbld;by_cases hz:L=[]
 ·have hv:yR L=[]:=by rw [hz];rfl
  simp [hz];rw [hv,hz] at hbld;refine ax.any (by simpa [ay] using hbld) ?_;intro v' h2 hh;rw [←hz] at hh;rw [←hv] at hh;obtain⟨x,y,rfl,cx,cy,hs⟩:=fin (v':=v') (h2:=h2) (by simpa [ay] using hh);simp [cx,cy];refine ax.any hs ?_;rintro v h' ⟨rfl,q1,q2,g,hg⟩;have hz':=hz;subst hz';simp [q1.rs.fix,q2.rs.fix];exact⟨x,y,⟨rfl,rfl⟩,q1,q2,g,hg⟩
 ·obtain⟨j,p,hj1,hj2,hj3⟩:=Nz hz;have hjl:=aK hj2;have hj2':=(zA.1 hj2).2;have hpos:L.length≠0:=by omega
  have hposI: ¬((L.length:Int)≤0):=by omega
  have hpos2:0<L.length:=by omega
  simp [hz,hpos,hposI,hpos2];refine ax.pure _ (fun _=>xx L (by omega)) ?_;simp [hj1,hj2,hj2',hjl,aj];refine ax.pure _ (fun _=>by simpa [aj] using yJ p) ?_;simp [hj3];refine ax.any (by simpa [ay] using hbld) ?_;intro v' h2 hh;obtain⟨x,y,rfl,cx,cy,hs⟩:=fin (v':=v') (h2:=h2) (by simpa [ay] using hh);simp [cx,cy];refine ax.any hs ?_;rintro v h' ⟨rfl,q1,q2,g,hg⟩;simp [q1.rs.fix,q2.rs.fix];exact⟨x,y,⟨rfl,rfl⟩,q1,q2,g,hg⟩
theorem Gl (t:aZ)(l:List aA)(i:Nat)(V:List Bytes):(((V.take i).map fun v=>bR t (vW l v) v).flatMap (·.trips)).length≤i*(17*l.length)∧(((V.take i).map fun v=>bR t (vW l v) v).flatMap (·.out)).length≤i*(19*l.length):=by
 have hb: ∀v,(bR t (vW l v) v).trips.length≤17*l.length∧(bR t (vW l v) v).out.length≤19*l.length:=fun v=>by
  have h1:=wQ t (vW l v) v;have h2:=vX l v;constructor <;> omega
 have hi:((V.take i).map fun v=>bR t (vW l v) v).length≤i:=by simp;omega
 constructor
 ·refine Nat.le_trans (Ap (k:=17*l.length) fun w hw=> ?_) (Nat.mul_le_mul_right _ hi);obtain⟨v,_,rfl⟩:=List.mem_map.1 hw;exact (hb v).1
 ·refine Nat.le_trans (Ap (k:=19*l.length) fun w hw=> ?_) (Nat.mul_le_mul_right _ hi);obtain⟨v,_,rfl⟩:=List.mem_map.1 hw;exact (hb v).2
def ku (t:aZ)(L:List aA)(V:List Bytes)(i:Nat):List bQ:=((V.take i).map fun v=>bR t (vW L v) v).flatMap (·.trips)
def tH (t:aZ)(L:List aA)(V:List Bytes)(i:Nat):List mP:=((V.take i).map fun v=>bR t (vW L v) v).flatMap (·.out)
theorem IW {t:aZ} {L:List aA} {V:List Bytes} {i:Nat} {v:Bytes} (h:V[i]? =some v):ku t L V (i+1)=ku t L V i++(bR t (vW L v) v).trips∧tH t L V (i+1)=tH t L V i++(bR t (vW L v) v).out:=by
 constructor <;> simp [ku,tH,zM,h]
theorem Ch (l:List bQ): ∀e∈l.map aB,∀y∈e,y.Data:=fun e he y hy=>by
 obtain⟨m,_,rfl⟩:=List.mem_map.1 he;simp only [aB,List.mem_cons,List.not_mem_nil,or_false] at hy;rcases hy with rfl | rfl | rfl | rfl | rfl
 all_goals first | exact .ro _ (fun e he y hy=>by obtain⟨s,_,rfl⟩:=List.mem_map.1 he;simp [af] at hy;rcases hy with rfl | rfl | rfl <;> simp) | simp
theorem ER (l:List mP): ∀e∈l.map bf,∀y∈e,y.Data:=fun e he y hy=>by
 obtain⟨m,_,rfl⟩:=List.mem_map.1 he;simp [bf] at hy;rcases hy with rfl | rfl <;> simp
theorem IV (t:aZ)(l:List aA)(v:Bytes)(hL:nO l)(hT:zt t):
  aa Tryz.prog gl 39 [.agg (ay t),.ro (l.map aj),.str v] h fun x h'=>x= .tup [.ro ((bR t l v).trips.map aB),.ro ((bR t l v).out.map bf)]∧h'=h:=by
 refine aa.fresh' ((Cg t l v hL.ok (by have:=hL.n;omega) hL.id hT.pt hT.p hT.l hT.s).mono ?_);rintro x h' ⟨x,y,rfl,hx,hy,hg⟩;exact⟨hg,.tup' (.cons (hx.frz (Nat.le_refl _) (Ch _)) (.cons (hy.frz (Nat.le_refl _) (ER _)) .nil))⟩
set_option maxHeartbeats 8000000 in
theorem PZ (t:aZ)(l:List aA) {x:AV} (hx:Rs 8 h x (l.map aj))(hL:nO l)(hT:zt t)(hE:(qy t l).length<20):
  aa Tryz.prog gl 16 [.agg (ay t),x] h fun v h'=> ∃x y,v= .tup [x,y]∧Ls 5 h.length h' x ((gP (allT t l)).map aB)∧Ls 2 h.length h' y ((jb (qy t l)).map bf)∧ ∃g,h'=h++g:=by
 refine aa.body Tryz.f16 _ mixed Tryz.func16 rfl rfl (by simp [Tryz.ntmps16]) ?_;have fx:=hx.fix;simp [fx,ay];refine ax.pure _ (fun _=>Et l (hx.append _) hL.ok hL.n) ?_;have hL1:=hL.once;have eT:allT t l=ku t (bT l) (gQ (bT l)) (gQ (bT l)).length:=by rw [ku,List.take_length];rfl
 have eE:qy t l=tH t (bT l) (gQ (bT l)) (gQ (bT l)).length:=by rw [tH,List.take_length];rfl
 rw [eE] at hE;rw [eT,eE];have hne: ∀i,∀a∈ku t (bT l) (gQ (bT l)) i,a.stops≠[]:=fun i a ha=>by
  obtain⟨w,hw,ha⟩:=List.mem_flatMap.1 ha;obtain⟨v,_,rfl⟩:=List.mem_map.1 hw;exact Dp _ _ _ a ha
 have hVl:=Ev (bT l);generalize bT l=L at*;clear eT eE hx fx hL;have hLn:=hL1.n;simp;refine ax.pure _ (fun _=>xn L hLn) ?_;generalize gQ L=V at*;have hlen: ∀i,i≤V.length→(ku t L V i).length≤8000∧(tH t L V i).length≤8000:=fun i hi=>by
  have h1:=Gl t L i V;have h2:i*(17*L.length)≤20*(17*20):=Nat.mul_le_mul (by omega) (by omega);have h3:i*(19*L.length)≤20*(19*20):=Nat.mul_le_mul (by omega) (by omega);unfold ku tH;omega
 simp;refine aT.up mixed V.length (fun i fr H=>fr 2= .ptr h.length 0 0∧fr 6= .ro (L.map aj)∧fr 16= .ro (V.map aR)∧fr 17= .int .i64 V.length∧fr 18= .int .i64 i∧(∃g,H=(h++[.cells 3 [ay t]])++g)∧
   (∃x,fr 7=x∧Ls 5 (h.length+1) H x ((ku t L V i).map aB))∧ ∃y,fr 8=y∧Ls 2 (h.length+1) H y ((tH t L V i).map bf)) 0 (by omega)
  ⟨by simp,by simp,by simp,by simp,by simp,⟨[],by simp [ay]⟩,⟨.nil,by simp,by simpa [ku] using Ls.nil⟩,.nil,by simp,by simpa [tH] using Ls.nil⟩ ?_
 rintro i fr H hi ⟨e2,e6,e16,e17,e18,hB,⟨x,e7,hx⟩,y,e8,hy⟩;have fx:=hx.rs.fix;have fy:=hy.rs.fix;have hlB:=cu hB;simp at hlB;have hT0:H[h.length]? =some (.cells 3 [ay t]):=by obtain⟨g,rfl⟩:=hB;simp
 have hT3:=at3 hT0;simp only [ay] at hT3;have hli:=hlen i hi;rcases zN i V.length with hlt | hge
 ·obtain⟨v,hv,hv'⟩:=aN hlt;have ew:=aC (i:=i) (by omega);have hltI:(i:Int)<V.length:=by omega
  obtain⟨q1,q2⟩:=IW (t:=t) (L:=L) hv;have hLv:=hL1.of v;have hol:=vX L v;have hbl:=wQ t (vW L v) v;simp [-ak,-av,-ai,-AV.solid,e2,e6,e7,e8,e16,e17,e18,hlt,hltI,hv,hv',hT3,aR];refine⟨by decide,?_⟩;refine ax.pure _ (fun _=>J8 L v hL1.ok hLn) ?_;simp [-ak,-av,-ai,-AV.solid,e2,e6,e7,e8,e16,e17,e18,hlt,hltI,hv,hv',hT3,aR];refine ax.pure _ (fun _=>by simpa [ay] using IV t (vW L v) v hLv hT) ?_;simp [-ak,-av,-ai,-AV.solid,e2,e6,e7,e8,e16,e17,e18,fx,fy];refine aO (lo:=h.length+1) (n:=5) (es:=(ku t L V i).map aB) (ys:=(bR t (vW L v) v).trips.map aB) hx (by omega) (vg (Rs.ro (KO _)) (by simp) (by simp) (by simp)) (by simp;omega) ?_;intro s1 H1 hs1 hg1 hn1;have hs1f:=hs1.rs.fix;have hy1:=gp hy hx (by decide) hg1;have hB1:=hg1.base (h++[.cells 3 [ay t]]) (by simp) hB;simp [-ak,-av,-ai,-AV.solid,e2,e6,e7,e8,e16,e17,e18,fx,fy,hs1f];refine aO (lo:=h.length+1) (n:=2) (es:=(tH t L V i).map bf) (ys:=(bR t (vW L v) v).out.map bf) hy1 (by have:=cu hB1;simp at this;omega) (vg (Rs.ro (Oz _)) (by simp) (by simp) (by simp)) (by simp;omega) ?_;intro s2 H2 hs2 hg2 hn2;have hs2f:=hs2.rs.fix;have hx2:=gp hs1 hy1 (by decide) hg2;have hB2:=hg2.base (h++[.cells 3 [ay t]]) (by simp) hB1;simp [-ak,-av,-ai,-AV.solid,e2,e6,e7,e8,e16,e17,e18,fx,fy,hs1f,hs2f,ew];refine⟨i+1,by omega,by omega,by omega,by simpa using hB2,?_,?_⟩
  ·rw [q1];simpa using hx2
  ·rw [q2];simpa using hs2
 ·obtain rfl:i=V.length:=by omega
  simp [-ak,-av,-ai,-AV.solid,e2,e6,e7,e8,e16,e17,e18,fx,fy];refine ax.any (yw (lo:=h.length) _ _ (lG hx (by omega)) (lG hy (by omega)) (hne _) (by omega) (by omega)) ?_;rintro v h' ⟨rfl,q1,q2,q3⟩;simp [q1.rs.fix,q2.rs.fix];obtain⟨g,hg⟩:=hB;exact⟨x,y,⟨rfl,rfl⟩,q1,q2,q3 h (Nat.le_refl _) ⟨_,by rw [hg,zK]⟩⟩
end Go.Proofs.YtkpioblbeiaefaaGreat
end
section
namespace Go.Toll
open Go Go.Abs
theorem Q6 {t:aZ} {veh:Bytes} {cls:Bytes→Int} {w:dh} {s:bn} {k:Nat} (h1: ∀x∈w.trips,x.stops.length≤k)(h2:w.opn.length≤k):(∀x∈(dE t veh cls w s).trips,x.stops.length≤k+1)∧(dE t veh cls w s).opn.length≤k+1:=by
 have key:(∀x∈(qw t veh cls w s).trips,x.stops.length≤k+1)∧(qw t veh cls w s).opn.length≤k+1:=by
  unfold qw;split
  ·refine⟨fun x hx=> ?_,by simp;omega⟩;rcases List.mem_append.1 hx with hx | hx
   ·have:=h1 x hx;omega
   ·obtain rfl:=List.mem_singleton.1 hx;simp [p9]
  ·exact⟨fun x hx=>by have:=h1 x hx;omega,by simp⟩
  ·refine⟨fun x hx=> ?_,by simp⟩;rcases List.mem_append.1 hx with hx | hx
   ·have:=h1 x hx;omega
   ·obtain rfl:=List.mem_singleton.1 hx;simp [p9];omega
  ·exact⟨fun x hx=>by have:=h1 x hx;omega,by simp;omega⟩
  ·exact⟨fun x hx=>by have:=h1 x hx;omega,by simp⟩
  ·exact⟨fun x hx=>by have:=h1 x hx;omega,by simp;omega⟩
 unfold dE;split <;> exact key
theorem Le {t:aZ} {veh:Bytes} {cls:Bytes→Int}: ∀(l:List bn) (w:dh) (k:Nat),(∀x∈w.trips,x.stops.length≤k)→w.opn.length≤k→ ∀x∈(l.foldl (dE t veh cls) w).trips,x.stops.length≤k+l.length
 | [],w,k,h1,_=>h1
 | s::l,w,k,h1,h2=>fun x hx=>by
  obtain⟨q1,q2⟩:=Q6 (t:=t) (veh:=veh) (cls:=cls) (s:=s) h1 h2;have:=Le l _ (k+1) q1 q2 x hx;simp;omega
theorem Oj (t:aZ)(l:List aA)(v:Bytes): ∀x∈(bR t l v).trips,x.stops.length≤17*l.length:=fun x hx=>by
 have h:=Le (t:=t) (veh:=v) (cls:=vD (jW l l.length)) (kE t l) (cK t l (fo (aI t).net (bB t l))) 0 (by simp [cK]) (by simp [cK]) x hx;have h1:=(uS (RH t) (l:=mi (aI t).net (bB t l))).2;have h2:(mi (aI t).net (bB t l)).length≤l.length:=Nat.le_trans (vP _ _ _) (mq t l);have h3:(kE t l).length≤17*l.length:=Nat.le_trans h1 (by omega);omega
theorem Qn (t:aZ)(l:List aA): ∀x∈allT t l,x.stops.length≤17*l.length:=fun x hx=>by
 obtain⟨w,hw,hx⟩:=List.mem_flatMap.1 hx;obtain⟨v,_,rfl⟩:=List.mem_map.1 hw;have h1:=Oj _ _ _ x hx;have h2:=vX (bT l) v;have h3:=vZ l;omega
theorem N8 {t:aZ} (hz:bN t=0) {l:List aA} (h: ∀p∈l,uX t p)(hn:l.length≤1024):(qy t l).length≤l.length:=by
 have hp:(((allT t l).flatMap fun x=>aQ x.stops)++(qy t l).map (·.id)).Perm ((bT l).map (·.id)):=
  List.perm_iff_count.2 fun a=>by rw [List.count_append];exact zx hz h hn a
 have:=hp.length_eq;have h1:=vZ l;rw [List.length_append,List.length_map,List.length_map] at this;omega
end Go.Toll
end
