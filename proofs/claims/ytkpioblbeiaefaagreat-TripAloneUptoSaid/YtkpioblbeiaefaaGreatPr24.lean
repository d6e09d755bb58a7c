/- Part 24 of the lemmas below the statements of this seat: StableTrip, SortExc, TripH, TollAllR, TollPassV. -/
import Derived.Test.YtkpioblbeiaefaaGreatPr22
import Derived.Test.YtkpioblbeiaefaaGreatPr23
set_option linter.unusedSectionVars false
set_option linter.unusedVariables false
set_option linter.unusedSimpArgs false
set_option linter.unnecessarySimpa false
set_option maxRecDepth 100000
section
namespace Go.Proofs.YtkpioblbeiaefaaGreat
open Go Go.Abs Go.Toll
variable {gl : aM} {h : af}
theorem ma (b:Nat)(P X Q:List (List AV))(a z N:Nat)(hP:P.length=a)(hz:a+X.length=z)(hN:N=z+Q.length)(hl:N≤1000000)(hb:b<h.length)(S:List (List AV))(hn: ∀e∈S,e.length=5)(hS: ∀e∈P++(X++Q),e∈S)(f:FuncId)(caps:List AV)(c:List AV→List AV→Int)
  (hc: ∀x∈S,∀y∈S,∀o,aa Tryz.prog gl f (.agg x:: .agg y::caps) (h.set b o) fun v h'=>v= .int .i64 (c x y)∧h'=h.set b o):
  aa Tryz.prog gl 135 [.own b 0 N,.int .i64 a,.int .i64 z,.fn (.func f) [] caps] (h.set b (.cells 5 (P++(X++Q))))
   fun v h'=>v= .tup []∧h'=h.set b (.cells 5 (P++(aQ (fun x y=>decide (c x y<0)) X++Q))):=by
 have hlen:(P++X++Q).length=N:=by simp;omega
 have:=vJ (gl:=gl) (h:=h) b P X Q hb (fun e he=>hn e (hS e (by simpa using he))) (by omega) f caps c (fun x hx y hy o=>hc x (hS x (by simp [hx])) y (hS y (by simp [hy])) o);rw [hlen,hP,hz] at this;simpa using this
set_option maxHeartbeats 4000000 in
theorem J8 (b:Nat)(seg:List (List AV))(N:Nat)(hN:seg.length=N)(hl:N≤400000)(hb:b<h.length)(hn: ∀e∈seg,e.length=5)(f:FuncId)(caps:List AV)(c:List AV→List AV→Int)(o:SWO (fun x y=>decide (c x y<0)))
  (hc: ∀x∈seg,∀y∈seg,∀o,aa Tryz.prog gl f (.agg x:: .agg y::caps) (h.set b o) fun v h'=>v= .int .i64 (c x y)∧h'=h.set b o):
  aa Tryz.prog gl 102 [.own b 0 N,.int .i64 N,.fn (.func f) [] caps] (h.set b (.cells 5 seg))
   fun v h'=>v= .tup []∧h'=h.set b (.cells 5 (aQ (fun x y=>decide (c x y<0)) seg)):=by
 refine aa.body Tryz.f102 _ mixed Tryz.func102 rfl rfl (by simp [Tryz.ntmps102]) ?_;simp;refine aT.up mixed N (fun k fr h'=> ∃p q:Nat,p=20*k∧q=20*k+20∧p≤N∧fr 0= .own b 0 N∧fr 1= .int .i64 N∧fr 2= .fn (.func f) [] caps∧fr 6= .int .i64 (20:Nat)∧fr 7= .int .i64 p∧fr 8= .int .i64 q∧
  h'=h.set b (.cells 5 (Ab (fun x y=>decide (c x y<0)) 20 seg k++seg.drop (20*k)))) 0 (by omega) ⟨0,20,by omega,by omega,by omega,by simp,by simp,by simp,by simp,by simp,by simp,by simp [Ab]⟩ ?_
 rintro k fr h' hk ⟨p,q,hp,hq,hpN,e0,e1,e2,e6,e7,e8,rfl⟩;have hhl:(Ab (fun x y=>decide (c x y<0)) 20 seg k).length=p:=by rw [vG (by omega),hp]
 rcases zN N q with hlt | hge
 ·have n1: ¬q≤N:=by omega
  simp [e0,e1,e2,e6,e7,e8,n1];have:=ma (gl:=gl) (h:=h) b (Ab (fun x y=>decide (c x y<0)) 20 seg k) (seg.drop (20*k)) [] p N N hhl (by simp;omega) (by simp) (by omega) hb seg hn (fun e he=>by
   simp at he;rcases he with he | he
   ·exact AA he
   ·exact List.mem_of_mem_drop he) f caps c hc
  simp at this;refine ax.any this ?_;rintro v h' ⟨rfl,rfl⟩;rw [Jd (by omega) (by simp;omega)];simp [e0,e1,e2,e6,e7,e8];refine aT.down mixed (fun k fr h'=> ∃B:Nat,k=N - B∧0<B∧B≤N+N+20∧fr 0= .own b 0 N∧fr 1= .int .i64 N∧fr 2= .fn (.func f) [] caps∧fr 6= .int .i64 B∧h'=h.set b (.cells 5 (EU (fun x y=>decide (c x y<0)) B seg))) (N - 20) ⟨20,rfl,by omega,by omega,by simp [e0],by simp [e1],by simp [e2],by simp [e6],rfl⟩ ?_;clear this e0 e1 e2 e6 e7 e8 hhl;rintro k fr h' ⟨B,rfl,hB,hBN,e0,e1,e2,e6,rfl⟩;rcases zN B N with hlt2 | hge2
  ·have w1:IntKind.i64.wrap (2*(B:Int))=(2*B:Nat):=by rw [aC (by omega) (by omega)];omega
   obtain⟨B2,hB2⟩: ∃B2,2*B=B2:=⟨_,rfl⟩;rw [hB2] at w1;simp [e0,e1,e2,e6,hlt2,w1];refine aT.down mixed (fun d fr h'=> ∃k p q:Nat,d=N - p∧p=B2*k∧q=p+B2∧p≤N∧fr 0= .own b 0 N∧fr 1= .int .i64 N∧fr 2= .fn (.func f) [] caps∧fr 6= .int .i64 B∧fr 7= .int .i64 p∧fr 8= .int .i64 q∧
    h'=h.set b (.cells 5 (Ab (fun x y=>decide (c x y<0)) B2 seg k++EU (fun x y=>decide (c x y<0)) B (seg.drop (B2*k))))) N ⟨0,0,B2,by omega,by omega,by omega,by omega,by simp [e0],by simp [e1],by simp [e2],by simp [e6],by simp,by simp,by simp [Ab]⟩ ?_
   clear e0 e1 e2 e6;rintro d fr h' ⟨k,p,q,rfl,hp,hq,hpN,e0,e1,e2,e6,e7,e8,rfl⟩;have hhl:(Ab (fun x y=>decide (c x y<0)) B2 seg k).length=p:=by rw [vG (by omega),hp]
   have w2:IntKind.i64.wrap ((p:Int)+B)=(p+B:Nat):=by rw [aC (by omega) (by omega)];omega
   obtain⟨m,hm⟩: ∃m,p+B=m:=⟨_,rfl⟩;rw [hm] at w2;have hmh: ∀e,e∈Ab (fun x y=>decide (c x y<0)) B2 seg k→e∈seg:=fun e he=>AA he;rcases zN N q with hlt3 | hge3
   ·have n1: ¬q≤N:=by omega
    have hrl:(seg.drop (B2*k)).length=N - p:=by simp;omega
    have hfin:Ab (fun x y=>decide (c x y<0)) B2 seg k++aQ (fun x y=>decide (c x y<0)) (seg.drop (B2*k))=EU (fun x y=>decide (c x y<0)) B2 seg:=Jd (by omega) (by omega);have w3:IntKind.i64.wrap ((B:Int)*2)=B2:=by rw [aC (by omega) (by omega)];omega
    have hmr: ∀e,e∈seg.drop (B2*k)→e∈seg:=fun e he=>List.mem_of_mem_drop he;generalize Ab (fun x y=>decide (c x y<0)) B2 seg k=H at*;generalize seg.drop (B2*k)=R at*;rcases zN m N with hlt4 | hge4
    ·simp [e0,e1,e2,e6,e7,e8,n1,w2,hlt4];have hl1:(R.take B).length=B:=by simp;omega
     have hl2:(R.drop B).length=N - m:=by simp;omega
     have:=vg (gl:=gl) (h:=h) b hb N (by omega) seg hn f caps c o hc (B+N) H (aQ (fun x y=>decide (c x y<0)) (R.take B)) (aQ (fun x y=>decide (c x y<0)) (R.drop B)) [] p m N (by simp only [bz];omega) (by simp only [bz];omega) (by simp only [bz];omega) (fZ o _) (fZ o _) hhl (by simp only [bz];omega) (by simp only [bz];omega) (by simp) (fun e he=>by
      simp [dB] at he;rcases he with he | he | he
      ·exact hmh e he
      ·exact hmr e (List.mem_of_mem_take he)
      ·exact hmr e (List.mem_of_mem_drop he))
     rw [Pg o,List.take_append_drop,List.append_nil,List.append_nil,hfin] at this;rw [vE hB,Au hB (show (R.drop B).length≤B by omega)];refine ax.any this ?_;rintro v h' ⟨rfl,rfl⟩;simp [e0,e1,e2,e6,w3,w1];exact⟨N - B2,by omega,B2,rfl,by omega,by omega,rfl,rfl⟩
    ·have n2: ¬m<N:=by omega
     simp [e0,e1,e2,e6,e7,e8,n1,w2,n2,w3,w1];exact⟨N - B2,by omega,B2,rfl,by omega,by omega,rfl,by rw [Au hB (by omega),hfin]⟩
   ·simp [e0,e1,e2,e6,e7,e8,hge3,w2];have hrl:(seg.drop (B2*k)).length=N - p:=by simp;omega
    have hnx:Ab (fun x y=>decide (c x y<0)) B2 seg (k+1)=Ab (fun x y=>decide (c x y<0)) B2 seg k++aQ (fun x y=>decide (c x y<0)) ((seg.drop (B2*k)).take B2):=rfl;have hdr:seg.drop (B2*(k+1))=(seg.drop (B2*k)).drop B2:=by rw [List.drop_drop,Nat.mul_succ]
    have hkk:B2*(k+1)=q:=by rw [Nat.mul_succ];omega
    have hmr: ∀e,e∈seg.drop (B2*k)→e∈seg:=fun e he=>List.mem_of_mem_drop he;have w4:IntKind.i64.wrap ((q:Int)+B2)=(q+B2:Nat):=by rw [aC (by omega) (by omega)];omega
    generalize Ab (fun x y=>decide (c x y<0)) B2 seg k=H at*;generalize seg.drop (B2*k)=R at*;have hl1:(R.take B).length=B:=by simp;omega
    have hl2:((R.drop B).take B).length=B:=by simp;omega
    have hl3:(EU (fun x y=>decide (c x y<0)) B (R.drop B2)).length=N - q:=by rw [Bq hB _ _ (Nat.le_refl _)];simp;omega
    have:=vg (gl:=gl) (h:=h) b hb N (by omega) seg hn f caps c o hc (B+B) H (aQ (fun x y=>decide (c x y<0)) (R.take B)) (aQ (fun x y=>decide (c x y<0)) ((R.drop B).take B)) (EU (fun x y=>decide (c x y<0)) B (R.drop B2)) p m q (by simp only [bz];omega) (by simp only [bz];omega) (by simp only [bz];omega) (fZ o _) (fZ o _) hhl (by simp only [bz];omega) (by simp only [bz];omega) (by rw [hl3];omega) (fun e he=>by
      simp only [List.mem_append,dB,Nc hB _ _ (Nat.le_refl _)] at he;rcases he with he | he | he | he
      ·exact hmh e he
      ·exact hmr e (List.mem_of_mem_take he)
      ·exact hmr e (List.mem_of_mem_drop (List.mem_of_mem_take he))
      ·exact hmr e (List.mem_of_mem_drop he))
    rw [Ph o,hB2] at this;rw [Sm hB,hB2];refine ax.any this ?_;rintro v h' ⟨rfl,rfl⟩;simp [e0,e1,e2,e6,e7,e8,w1,w4];refine⟨N - q,by omega,k+1,q,rfl,hkk.symm,hge3,rfl,?_⟩;rw [hnx,hdr];simp
  ·have n1: ¬B<N:=by omega
   simp [e0,e1,e2,e6,n1];rw [Au hB (by omega)]
 ·simp [e0,e1,e2,e6,e7,e8,hge];have hl1:((seg.drop (20*k)).take 20).length=20:=by simp;omega
  have hdr:seg.drop (20*k)=(seg.drop (20*k)).take 20++seg.drop (20*(k+1)):=by
   have:=(List.take_append_drop 20 (seg.drop (20*k))).symm;rw [List.drop_drop] at this;rwa [Nat.mul_succ]
  have:=ma (gl:=gl) (h:=h) b (Ab (fun x y=>decide (c x y<0)) 20 seg k) ((seg.drop (20*k)).take 20) (seg.drop (20*(k+1))) p q N hhl (by omega) (by simp;omega) (by omega) hb seg hn (fun e he=>by
   simp only [List.mem_append] at he;rcases he with he | he | he
   ·exact AA he
   ·exact List.mem_of_mem_drop (List.mem_of_mem_take he)
   ·exact List.mem_of_mem_drop he) f caps c hc
  rw [←hdr] at this;refine ax.any this ?_;rintro v h' ⟨rfl,rfl⟩;have w4:IntKind.i64.wrap ((q:Int)+20)=(q+20:Nat):=by rw [aC (by omega) (by omega)];omega
  simp [e0,e1,e2,e6,e7,e8,w4];refine⟨k+1,by omega,by omega,by omega,by omega,?_⟩;simp [Ab]
theorem zY (b:Nat)(seg:List (List AV))(N:Nat)(hN:seg.length=N)(hl:N≤400000)(hb:b<h.length)(hn: ∀e∈seg,e.length=5)(f:FuncId)(caps:List AV)(c:List AV→List AV→Int)(o:SWO (fun x y=>decide (c x y<0)))
  (hc: ∀x∈seg,∀y∈seg,∀o,aa Tryz.prog gl f (.agg x:: .agg y::caps) (h.set b o) fun v h'=>v= .int .i64 (c x y)∧h'=h.set b o):
  aa Tryz.prog gl 68 [.own b 0 N,.fn (.func f) [] caps] (h.set b (.cells 5 seg))
   fun v h'=>v= .tup []∧h'=h.set b (.cells 5 (aQ (fun x y=>decide (c x y<0)) seg)):=by
 refine aa.body Tryz.f68 _ mixed Tryz.func68 rfl rfl (by simp [Tryz.ntmps68]) ?_;simp;refine ax.any (J8 b seg N hN hl hb hn f caps c o hc) ?_;rintro v h' ⟨rfl,rfl⟩;simp
theorem xh (b:Nat)(pre seg post:List (List AV))(hb:b<h.length)(hn: ∀e∈pre++seg++post,e.length=2)(hl:(pre++seg++post).length≤1000000)(f:FuncId)(caps:List AV)(c:List AV→List AV→Int)
  (hc: ∀x∈seg,∀y∈seg,∀o,aa Tryz.prog gl f (.agg x:: .agg y::caps) (h.set b o) fun v h'=>v= .int .i64 (c x y)∧h'=h.set b o):
  aa Tryz.prog gl 137 [.own b 0 (pre++seg++post).length,.int .i64 pre.length,.int .i64 (pre.length+seg.length:Nat),.fn (.func f) [] caps] (h.set b (.cells 2 (pre++seg++post)))
   fun v h'=>v= .tup []∧h'=h.set b (.cells 2 (pre++aQ (fun x y=>decide (c x y<0)) seg++post)):=by
 refine aa.body Tryz.f137 _ mixed Tryz.func137 rfl rfl (by simp [Tryz.ntmps137]) ?_;have hl':pre.length+seg.length+post.length≤1000000:=by simpa [Nat.add_assoc] using hl
 have ew:=aB (i:=pre.length) (by omega);simp [ew];refine aT.up mixed (seg.length+1) (fun i fr h'=>fr 0= .own b 0 (pre++seg++post).length∧fr 1= .int .i64 pre.length∧fr 2= .int .i64 (pre.length+seg.length:Nat)∧fr 3= .fn (.func f) [] caps∧fr 8= .int .i64 (pre.length+i:Nat)∧1≤i∧
  h'=h.set b (.cells 2 (pre++(aQ (fun x y=>decide (c x y<0)) (seg.take i)++seg.drop i)++post))) 1 (by omega) ⟨by simp,by simp,by simp,by simp,by simp,by omega,?_⟩ ?_
 ·cases seg with
  | nil=>simp [aQ]
  | cons x seg=>simp [aQ,iQ,fM]
 rintro i fr h' hi ⟨e0,e1,e2,e3,e8,h1i,rfl⟩;rcases zN i seg.length with hlt | hge
 ·obtain⟨x,hg,hg'⟩:=aJ hlt;have hlt2:((pre.length:Int)+i)<pre.length+seg.length:=by omega
  simp [e0,e1,e2,e3,e8,hlt,hlt2];have hil:(aQ (fun x y=>decide (c x y<0)) (seg.take i)).length=i:=by rw [bz];simp;omega
  generalize hL:aQ (fun x y=>decide (c x y<0)) (seg.take i)=L at hil;refine aT.down mixed (fun j fr h'=>fr 0= .own b 0 (pre++seg++post).length∧fr 1= .int .i64 pre.length∧fr 2= .int .i64 (pre.length+seg.length:Nat)∧fr 3= .fn (.func f) [] caps∧fr 8= .int .i64 (pre.length+i:Nat)∧fr 9= .int .i64 (pre.length+j:Nat)∧j≤i∧
   fM (fun x y=>decide (c x y<0)) x L i=fM (fun x y=>decide (c x y<0)) x L j∧
   ∃all,h'=h.set b (.cells 2 all)∧all=sinkB pre L (seg.drop (i+1)++post) x j) i ⟨by simp [e0],by simp [e1],by simp [e2],by simp [e3],by simp [e8],by simp,by omega,rfl,_,rfl,?_⟩ ?_
  ·rw [bq hg];simp [sinkB,←hil]
  rintro j fr h' ⟨e0,e1,e2,e3,e8,e9,hj,hK,all,rfl,hall⟩;have hal:all.length=pre.length+seg.length+post.length:=by rw [hall,mR];simp;omega
  rcases Nat.eq_zero_or_pos j with rfl | hpos
  ·simp [e0,e1,e2,e3,e8,e9,hb];refine⟨by decide,ax.pure (.int .i64 0) (fun hg=>by cases hg) ?_⟩;have ewi:=aB (i:=pre.length+i) (by omega);simp at ewi;simp [e0,e1,e2,e3,e8,e9,ewi];refine⟨i+1,by omega,by omega,by simp;omega,?_⟩;rw [eY _ hg,hL,hall,iQ,hil,hK];simp [sinkB,fM]
  obtain⟨k,rfl⟩: ∃k,j=k+1:=⟨j - 1,by omega⟩;have hgx:=H8 (pre:=pre) (l:=L) (post:=seg.drop (i+1)++post) (x:=x) (j:=k+1) (by omega);have hgy:=H9 (pre:=pre) (l:=L) (post:=seg.drop (i+1)++post) (x:=x) (j:=k) (by omega);obtain⟨y,hy,hy'⟩:=aJ (l:=L) (i:=k) (by omega);rw [←hall] at hgx hgy;rw [hy] at hgy;have e9':fr 9= .int .i64 (pre.length+k+1:Nat):=e9;have hgx':all[pre.length+k+1]? =some x:=hgx;have hsw:=wu (pre:=pre) (post:=seg.drop (i+1)++post) (x:=x) hy;rw [←hall] at hsw;have hsw':(all.set (pre.length+k+1) y).set (pre.length+k) x=sinkB pre L (seg.drop (i+1)++post) x k:=hsw;generalize hp:pre.length+k=p at e9' hgx' hgy hsw';clear hgx e9 hsw;have p1:((pre.length:Int))<p+1:=by omega
  have p2:p+1<all.length:=by omega
  have wp:IntKind.i64.wrap (p:Int)=p:=aC (by omega) (by omega);have hxO:=hn x (by simp [zF hg]);have hx5:x.length=2:=hxO;have hys:y∈seg:=List.mem_of_mem_take ((dB _).1 (hL▸zF hy));have hxs:x∈seg:=zF hg;have hyO:=hn y (by simp [hys]);have hy5:y.length=2:=hyO;simp [e0,e1,e2,e3,e8,e9',hgx',hgy,p1,hb,wp];refine⟨by decide,⟨by omega,by omega,by omega⟩,⟨by omega,by omega⟩,⟨by omega,by omega⟩,⟨by omega,by omega⟩,?_⟩;rw [zG (by omega),zG (by omega)];refine ax.pure _ (fun _=>hc x hxs y hys _) ?_;have tx:x.take 2=x:=zG (by omega);have ty:y.take 2=y:=zG (by omega);have dx:x.drop 2=[]:=zH (by omega);have dy:y.drop 2=[]:=zH (by omega);have ewi:=aB (i:=pre.length+i) (by omega);simp at ewi;simp [e0,e1,e2,e3,e8,e9',hgx',hgy,p1,hb,wp,hx5,hy5,tx,ty,dx,dy,hsw',ewi];refine⟨fun hlt0=>⟨by decide,?_⟩,fun hge0=>⟨i+1,by omega,by omega,by simp;omega,by omega,?_⟩⟩
  ·repeat refine And.intro (by omega) ?_
   refine⟨k,by omega,by omega,by omega,?_,rfl⟩;rw [hK,fM,hy];simp [hlt0]
  ·have hk2:fM (fun x y=>decide (c x y<0)) x L i=k+1:=by
    rw [hK,fM,hy];simp [show ¬c x y<0 by omega]
   rw [eY _ hg,hL,hall,iQ,hil,hk2];simp [sinkB]
 ·have hge2: ¬((pre.length:Int)+i)<pre.length+seg.length:=by omega
  simp [e0,e1,e2,e3,e8,hge2];rw [zG (by omega),zH (by omega)];rfl
theorem Ih (b:Nat)(seg:List (List AV))(hb:b<h.length)(hn: ∀e∈seg,e.length=2)(hl:seg.length<20)(f:FuncId)(caps:List AV)(c:List AV→List AV→Int)
  (hc: ∀x∈seg,∀y∈seg,∀o,aa Tryz.prog gl f (.agg x:: .agg y::caps) (h.set b o) fun v h'=>v= .int .i64 (c x y)∧h'=h.set b o):
  aa Tryz.prog gl 105 [.own b 0 seg.length,.int .i64 seg.length,.fn (.func f) [] caps] (h.set b (.cells 2 seg))
   fun v h'=>v= .tup []∧h'=h.set b (.cells 2 (aQ (fun x y=>decide (c x y<0)) seg)):=by
 refine aa.body Tryz.f105 _ mixed Tryz.func105 rfl rfl (by simp [Tryz.ntmps105]) ?_;have h1: ¬(20:Int)≤seg.length:=by omega
 have h2: ¬(20:Int)<seg.length:=by omega
 simp;refine aT.up mixed 0 (fun i fr h'=>fr 0= .own b 0 seg.length∧fr 1= .int .i64 seg.length∧fr 2= .fn (.func f) [] caps∧fr 6= .int .i64 20∧fr 7= .int .i64 0∧fr 8= .int .i64 20∧h'=h.set b (.cells 2 seg)) 0 (by omega) ⟨by simp,by simp,by simp,by simp,by simp,by simp,rfl⟩ ?_;rintro i fr h' hi ⟨e0,e1,e2,e6,e7,e8,rfl⟩;simp [e0,e1,e2,e6,e7,e8,h1];have:=xh (gl:=gl) b [] seg [] hb (by simpa using hn) (by simp;omega) f caps c hc;simp at this;refine ax.any this ?_;rintro v h' ⟨rfl,rfl⟩;simp [e0,e1,e2,e6,e7,e8];refine aT.up mixed 0 (fun i fr h'=>fr 1= .int .i64 seg.length∧fr 6= .int .i64 20∧h'=h.set b (.cells 2 (aQ (fun x y=>decide (c x y<0)) seg))) 0 (by omega) ⟨by simp [e1],by simp [e6],rfl⟩ ?_;rintro i fr h' hi ⟨e1,e6,rfl⟩;simp [e1,e6,h2]
theorem xU (b:Nat)(seg:List (List AV))(hb:b<h.length)(hn: ∀e∈seg,e.length=2)(hl:seg.length<20)(f:FuncId)(caps:List AV)(c:List AV→List AV→Int)
  (hc: ∀x∈seg,∀y∈seg,∀o,aa Tryz.prog gl f (.agg x:: .agg y::caps) (h.set b o) fun v h'=>v= .int .i64 (c x y)∧h'=h.set b o):
  aa Tryz.prog gl 73 [.own b 0 seg.length,.fn (.func f) [] caps] (h.set b (.cells 2 seg))
   fun v h'=>v= .tup []∧h'=h.set b (.cells 2 (aQ (fun x y=>decide (c x y<0)) seg)):=by
 refine aa.body Tryz.f73 _ mixed Tryz.func73 rfl rfl (by simp [Tryz.ntmps73]) ?_;simp;refine ax.any (Ih b seg hb hn hl f caps c hc) ?_;rintro v h' ⟨rfl,rfl⟩;simp
theorem q9 (f:FuncId)(caps:List AV):
  aa Tryz.prog gl 137 [.nil,.int .i64 0,.int .i64 0,.fn (.func f) [] caps] h fun v h'=>v= .tup []∧h'=h:=by
 refine aa.body Tryz.f137 _ mixed Tryz.func137 rfl rfl (by simp [Tryz.ntmps137]) ?_;simp;refine aT.up mixed 0 (fun i fr h'=>fr 2= .int .i64 0∧fr 8= .int .i64 (IntKind.i64.wrap 1)∧h'=h) 0 (by omega) ⟨by simp,by simp,rfl⟩ ?_;rintro i fr h' hi ⟨e2,e8,rfl⟩;simp [e2,e8,aC]
theorem Dw (f:FuncId)(caps:List AV):
  aa Tryz.prog gl 105 [.nil,.int .i64 0,.fn (.func f) [] caps] h fun v h'=>v= .tup []∧h'=h:=by
 refine aa.body Tryz.f105 _ mixed Tryz.func105 rfl rfl (by simp [Tryz.ntmps105]) ?_;simp;refine aT.up mixed 0 (fun i fr h'=>fr 0= .nil∧fr 1= .int .i64 0∧fr 2= .fn (.func f) [] caps∧fr 6= .int .i64 20∧fr 7= .int .i64 0∧fr 8= .int .i64 20∧h'=h) 0 (by omega) ⟨by simp,by simp,by simp,by simp,by simp,by simp,rfl⟩ ?_;rintro i fr h' hi ⟨e0,e1,e2,e6,e7,e8,rfl⟩;simp [e0,e1,e2,e6,e7,e8];refine ax.pure _ (fun _=>q9 f caps) ?_;simp [e0,e1,e2,e6,e7,e8];refine aT.up mixed 0 (fun i fr h''=>fr 1= .int .i64 0∧fr 6= .int .i64 20∧h''=h') 0 (by omega) ⟨by simp [e1],by simp [e6],rfl⟩ ?_;rintro i fr h' hi ⟨e1,e6,rfl⟩;simp [e1,e6]
theorem vz (f:FuncId)(caps:List AV):
  aa Tryz.prog gl 73 [.nil,.fn (.func f) [] caps] h fun v h'=>v= .tup []∧h'=h:=by
 refine aa.body Tryz.f73 _ mixed Tryz.func73 rfl rfl (by simp [Tryz.ntmps73]) ?_;simp;refine ax.pure _ (fun _=>Dw f caps) ?_;simp
set_option maxHeartbeats 2000000 in
theorem Im (a b:bW)(ha:a.stops≠[])(hb:b.stops≠[]):aa Tryz.prog gl 69 [.agg (aD a),.agg (aD b)] h fun v h'=>v= .int .i64 (qU a b)∧h'=h:=by
 refine aa.data (by simp) (aa.body Tryz.f69 _ mixed Tryz.func69 rfl rfl (by simp [Tryz.ntmps69]) ?_);obtain⟨a0,ra,ea⟩:=List.exists_cons_of_ne_nil ha;obtain⟨b0,rb,eb⟩:=List.exists_cons_of_ne_nil hb;have hc:qU a b=cz [ig a0.time b0.time,iZ a.id b.id]:=by rw [qU,DI,DI,ea,eb];rfl
 obtain⟨c1,h1⟩: ∃c,c=ig a0.time b0.time:=⟨_,rfl⟩;obtain⟨c2,h2⟩: ∃c,c=iZ a.id b.id:=⟨_,rfl⟩;rw [hc,←h1,←h2];simp [aD,ea,eb,ak];refine⟨by decide,?_⟩;refine ax.pure (.int .i64 c1) (fun _=>by rw [h1];exact IV a0.time b0.time) ?_;simp;refine ax.pure (.int .i64 c2) (fun _=>by rw [h2];exact Bj a.id b.id) ?_;simp;refine ax.pure _ (fun _=>Gy (h.length+2) [c1,c2] (by simp) (by simp)) ?_;simp
theorem Ip (a b:kD):aa Tryz.prog gl 74 [.agg (bf a),.agg (bf b)] h fun v h'=>v= .int .i64 (MO a b)∧h'=h:=by
 refine aa.data (by simp) (aa.body Tryz.f74 _ mixed Tryz.func74 rfl rfl (by simp [Tryz.ntmps74]) ?_);simp [bf];refine ax.pure _ (fun _=>Bj a.id b.id) ?_;simp [MO]
theorem MC (l:List bW): ∀e∈l.map aD,e.length=5:=by
 intro e he;obtain⟨s,_,rfl⟩:=List.mem_map.1 he;rfl
theorem Qg (l:List kD): ∀e∈l.map bf,e.length=2:=by
 intro e he;obtain⟨s,_,rfl⟩:=List.mem_map.1 he;rfl
theorem Mf {lo:Nat} {x:AV} (l:List bW)(hx:Ls 5 lo h x (l.map aD))(hne: ∀a∈l,a.stops≠[])(hl:l.length≤400000):
  aa Tryz.prog gl 68 [x,.fn (.func 69) [] []] h fun v h'=>v= .tup []∧Ls 5 lo h' x ((dK l).map aD)∧h'.length=h.length∧ ∀(b:Nat) (o:bY),h[b]? =some o→(∀off len,x≠ .own b off len)→h'[b]? =some o:=by
 rcases hx.1 with⟨rfl,he⟩ | ⟨b,rfl,hlb,hb⟩
 ·have he:l=[]:=by simpa using he
  subst he;refine (uG _ _).mono ?_;rintro v h' ⟨rfl,rfl⟩;exact⟨rfl,hx,rfl,fun _ _ ho _=>ho⟩
 ·have hbl:=aK hb;have hset:h.set b (.cells 5 (l.map aD))=h:=by obtain⟨_,hg⟩:=zA.1 hb;rw [←hg];exact List.set_getElem_self ..
  have hs:=zY (gl:=gl) (h:=h) b (l.map aD) l.length (by simp) hl hbl (MC l) 69 [] xL LC.swo (by
   intro x hx y hy o;obtain⟨a,hma,rfl⟩:=List.mem_map.1 hx;obtain⟨c,hmc,rfl⟩:=List.mem_map.1 hy;rw [FY (hne a hma) (hne c hmc)];exact Im a c (hne a hma) (hne c hmc))
  have hsm:aQ (fun x y=>decide (xL x y<0)) (l.map aD)=(dK l).map aD:=by
   have e: ∀r acc:List bW,(∀a∈r,a.stops≠[])→(∀a∈acc,a.stops≠[])→(r.map aD).foldl (fun acc x=>iQ (fun x y=>decide (xL x y<0)) x acc) (acc.map aD)=(r.foldl (fun acc x=>iQ (fun x y=>decide (qU x y<0)) x acc) acc).map aD:=by
    intro r
    induction r with
    | nil=>intro acc _ _;rfl
    | cons x r ih=>
     intro acc h1 h2;have hk: ∀k:Nat,fM (fun x y=>decide (xL x y<0)) (aD x) (acc.map aD) k=fM (fun x y=>decide (qU x y<0)) x acc k:=by
      intro k
      induction k with
      | zero=>rfl
      | succ k ihk=>
       rw [fM,fM,List.getElem?_map]
       cases hy:acc[k]? with
       | none=>rfl
       | some y=>
        simp only [Option.map_some];rw [FY (h1 x (by simp)) (h2 y (zF hy)),ihk]
     have hi:iQ (fun x y=>decide (xL x y<0)) (aD x) (acc.map aD)=(iQ (fun x y=>decide (qU x y<0)) x acc).map aD:=by
      rw [iQ,iQ,List.length_map,hk,List.map_append,List.map_cons,List.map_take,List.map_drop]
     rw [List.map_cons,List.foldl_cons,List.foldl_cons,hi];refine ih _ (fun a ha=>h1 a (by simp [ha])) fun a ha=> ?_;rcases (JC _).1 ha with rfl | ha
     ·exact h1 _ (by simp)
     ·exact h2 a ha
   have:=e l [] hne (by simp);simpa [aQ,dK] using this
  rw [hset,hsm] at hs;rw [List.length_map];refine hs.mono ?_;rintro v h' ⟨rfl,rfl⟩;refine⟨rfl,⟨.inr ⟨b,by simp [dK,bz],hlb,zI hbl⟩,MC _⟩,by simp,fun b' o ho hne=> ?_⟩;rw [zJ (by rintro rfl;exact hne _ _ rfl)];exact ho
theorem Pj {lo:Nat} {x:AV} (l:List kD)(hx:Ls 2 lo h x (l.map bf))(hl:l.length<20):
  aa Tryz.prog gl 73 [x,.fn (.func 74) [] []] h fun v h'=>v= .tup []∧Ls 2 lo h' x ((iC l).map bf)∧h'.length=h.length∧ ∀(b:Nat) (o:bY),h[b]? =some o→(∀off len,x≠ .own b off len)→h'[b]? =some o:=by
 rcases hx.1 with⟨rfl,he⟩ | ⟨b,rfl,hlb,hb⟩
 ·have he:l=[]:=by simpa using he
  subst he;refine (vz _ _).mono ?_;rintro v h' ⟨rfl,rfl⟩;exact⟨rfl,hx,rfl,fun _ _ ho _=>ho⟩
 ·have hbl:=aK hb;have hset:h.set b (.cells 2 (l.map bf))=h:=by obtain⟨_,hg⟩:=zA.1 hb;rw [←hg];exact List.set_getElem_self ..
  have hs:=xU (gl:=gl) (h:=h) b (l.map bf) hbl (Qg l) (by simpa using hl) 74 [] Xb (by
   intro x hx y hy o;obtain⟨a,hma,rfl⟩:=List.mem_map.1 hx;obtain⟨c,hmc,rfl⟩:=List.mem_map.1 hy;exact Ip a c)
  have hsm:aQ (fun x y=>decide (Xb x y<0)) (l.map bf)=(iC l).map bf:=yM (lt:=fun x y=>decide (MO x y<0)) (fun _ _=>rfl) l;rw [hset,hsm] at hs;refine hs.mono ?_;rintro v h' ⟨rfl,rfl⟩;refine⟨rfl,⟨.inr ⟨b,by simp [iC,bz],hlb,zI hbl⟩,Qg _⟩,by simp,fun b' o ho hne=> ?_⟩;rw [zJ (by rintro rfl;exact hne _ _ rfl)];exact ho
theorem Nb {n m lo:Nat} {H H':af} {x y:AV} {es es':List (List AV)} (hx:Ls n lo H x es)(hy:Ls m lo H y es')(hnm:n≠m)(hk: ∀(b:Nat) (o:bY),H[b]? =some o→(∀off len,x≠ .own b off len)→H'[b]? =some o):Ls m lo H' y es':=by
 rcases hy.1 with⟨rfl,he⟩ | ⟨b,rfl,hlb,hb⟩
 ·exact⟨.inl ⟨rfl,he⟩,hy.2⟩
 ·exact⟨.inr ⟨b,rfl,hlb,hk b _ hb (sS hx hb (Ne.symm hnm))⟩,hy.2⟩
set_option maxHeartbeats 2000000 in
theorem zW {lo:Nat} {x y:AV} (l:List bW)(e:List kD)(hx:Ls 5 lo h x (l.map aD))(hy:Ls 2 lo h y (e.map bf))(hne: ∀a∈l,a.stops≠[])(hl:l.length≤400000)(he:e.length<20):
  aa Tryz.prog gl 38 [x,y] h fun v h'=>v= .tup [x,y]∧Ls 5 lo h' x ((dK l).map aD)∧Ls 2 lo h' y ((iC e).map bf)∧ ∀h0:af,h0.length≤lo→(∃g,h=h0++g)→ ∃g,h'=h0++g:=by
 refine aa.body Tryz.f38 _ mixed Tryz.func38 rfl rfl (by simp [Tryz.ntmps38]) ?_;have fx:=hx.rs.fix;have fy:=hy.rs.fix;simp [fx,fy];refine ax.any (Mf l hx hne hl) ?_;rintro v h1 ⟨rfl,hx1,hl1,hk1⟩;have hy1:=Nb hx hy (by decide) hk1;have fx1:=hx1.rs.fix;have fy1:=hy1.rs.fix;simp [fx,fy,fx1,fy1];refine ax.any (Pj e hy1 he) ?_;rintro v h2 ⟨rfl,hy2,hl2,hk2⟩;have hx2:=Nb hy1 hx1 (by decide) hk2;have fx2:=hx2.rs.fix;have fy2:=hy2.rs.fix;simp [fx,fy,fx2,fy2];refine⟨hx2,hy2,fun h0 hlo g hg=> ?_⟩;have hb1: ∃g,h1=h0++g:=jR ⟨g,hg⟩ (fun b o hb ho=>hk1 b o ho fun off len e=>by have:=hx.above _ _ _ e;omega) (by rw [hl1,hg];simp);obtain⟨g1,hg1⟩:=hb1;exact jR ⟨g1,hg1⟩ (fun b o hb ho=>hk2 b o ho fun off len e=>by have:=hy1.above _ _ _ e;omega) (by rw [hl2,hl1,hg];simp)
theorem Pq {l:List ay} (hl:l≠[]): ∃(j:Nat) (p:ay),max 0 (Ke l)=(j:Int)∧l[j]? =some p∧Nu p=xO l:=by
 obtain⟨a,r,rfl⟩:=List.exists_cons_of_ne_nil hl;have h:=RH (l:=a::r);unfold Ke xO
 cases hi:(a::r).findIdx? (fun p=> !decide (p.tag=[])) with
 | none=>
  rw [hi] at h;refine⟨0,a,by show max (0:Int) (-1)=0;rfl,rfl,?_⟩;simp only at h ⊢;rw [h];rfl
 | some i=>
  rw [hi] at h;obtain⟨p,h1,h2⟩:=h;refine⟨i,p,by simp only;omega,h1,?_⟩;simp only;rw [h2];rfl
structure oG (l:List ay):Prop where
 ok: ∀p∈l,p.Ok∧p.sources.length≤1000
 id: ∀p∈l,p.id.length≤1000000
 n:l.length<20
structure A7 (t:aY):Prop where
 pt: ∀p∈t.net.pts,p.name.length≤1000000
 p:t.net.pts.length≤1000
 l:t.net.lks.length≤1000
 s:t.sys.length≤1000
theorem Fy {l:List ay} {p:ay} (hp:p∈aW l):p∈l:=by
 have:=kU hp;rw [List.take_length] at this;exact lh.1 this
theorem OP (l:List ay):(aW l).length≤l.length:=by
 have:=pE (dC l) (dC l).length;rw [mZ] at this;rw [aW,mZ];exact this
theorem oG.once {l:List ay} (h:oG l):oG (aW l):=⟨fun p hp=>h.ok p (Fy hp),fun p hp=>h.id p (Fy hp),Nat.lt_of_le_of_lt (OP l) h.n⟩
theorem oG.of {l:List ay} (h:oG l)(v:Bytes):oG (jM l v):=⟨fun p hp=>h.ok p (jZ hp).1,fun p hp=>h.id p (jZ hp).1,Nat.lt_of_le_of_lt (lv l v) h.n⟩
theorem Sa {t:aY} {veh:Bytes} {cls:Bytes→Int} {w:bS} (h: ∀x∈w.trips,x.stops≠[])(s:aX): ∀x∈(bV t veh cls w s).trips,x.stops≠[]:=by
 have: ∀x∈(lC t veh cls w s).trips,x.stops≠[]:=by
  unfold lC;split <;> simp only [List.mem_append,List.mem_singleton]
  case h_1=>rintro x (hx | rfl);exact h x hx;simp [kz]
  case h_3=>rintro x (hx | rfl);exact h x hx;simp [kz]
  all_goals exact h
 unfold bV;split <;> exact this
theorem I7 {t:aY} {veh:Bytes} {cls:Bytes→Int}: ∀(l:List aX) (w:bS),(∀x∈w.trips,x.stops≠[])→ ∀x∈(l.foldl (bV t veh cls) w).trips,x.stops≠[]
 | [],w,h=>h
 | s::l,w,h=>I7 l _ (Sa h s)
theorem EO (t:aY)(l:List ay)(v:Bytes): ∀x∈(bI t l v).trips,x.stops≠[]:=I7 _ _ (by simp [bP])
set_option maxHeartbeats 4000000 in
theorem DN (t:aY)(l:List ay) {x:AV} (hx:Rs 8 h x (l.map ae))(hL:oG l)(hT:A7 t)(hE:(iN t l).out.length<20):
  aa Tryz.prog gl 12 [.agg (aA t),x] h fun v h'=> ∃x y,v= .tup [x,y]∧Ls 5 h.length h' x ((dK (iN t l).trips).map aD)∧Ls 2 h.length h' y ((iC (iN t l).out).map bf)∧ ∃g,h'=h++g:=by
 refine aa.body Tryz.f12 _ mixed Tryz.func12 rfl rfl (by simp [Tryz.ntmps12]) ?_;have fx:=hx.fix;simp [fx,aA];refine ax.pure _ (fun _=>FZ l (hx.append _) hL.ok hL.n) ?_;have hL1:=hL.once;have hB:=EO t (aW l) (xO (aW l));have hBl:=xX t (aW l) (xO (aW l));unfold iN at hE ⊢;generalize aW l=L at*;have hLn:=hL1.n;have key: ∀fr:aG,fr 2= .ptr h.length 0 0→fr 6= .ro (L.map ae)→True:=fun _ _ _=>trivial;clear key;have fin: ∀ {v':AV} {h2:af},(∃x y,v'= .tup [x,y]∧Ls 5 (h.length+1) h2 x ((bI t L (xO L)).trips.map aD)∧Ls 2 (h.length+1) h2 y ((bI t L (xO L)).out.map bf)∧ ∃g,h2=(h++[.cells 3 [aA t]])++g)→
   ∃x y,v'= .tup [x,y]∧(x.core=x∧x.gd=true∧x.solid=true∧ah x=[x])∧(y.core=y∧y.gd=true∧y.solid=true∧ah y=[y])∧aa Tryz.prog gl 38 [x,y] h2 fun v h'=>v= .tup [x,y]∧Ls 5 h.length h' x ((dK (bI t L (xO L)).trips).map aD)∧Ls 2 h.length h' y ((iC (bI t L (xO L)).out).map bf)∧ ∃g,h'=h++g:=by
  rintro v' h2 ⟨x,y,rfl,h1,h3,g,rfl⟩;refine⟨x,y,rfl,h1.rs.fix,h3.rs.fix,(zW (lo:=h.length) _ _ (jW h1 (by omega)) (jW h3 (by omega)) hB (by omega) (by omega)).mono ?_⟩;rintro v h' ⟨rfl,q1,q2,q3⟩;exact⟨rfl,q1,q2,q3 h (Nat.le_refl _) ⟨_,by rw [zK]⟩⟩
 have hbld:=DT (gl:=gl) (h:=h++[.cells 3 [aA t]]) t L (xO L) hL1.ok (by omega) hL1.id hT.pt hT.p hT.l hT.s;simp only [List.length_append,List.length_singleton] at hbld;by_cases hz:L=[]
 ·have hv:xO L=[]:=by rw [hz];rfl
  simp [hz];rw [hv,hz] at hbld;refine ax.any (by simpa [aA] using hbld) ?_;intro v' h2 hh;rw [←hz] at hh;rw [←hv] at hh;obtain⟨x,y,rfl,cx,cy,hs⟩:=fin (v':=v') (h2:=h2) (by simpa [aA] using hh);simp [cx,cy];refine ax.any hs ?_;rintro v h' ⟨rfl,q1,q2,g,hg⟩;have hz':=hz;subst hz';simp [q1.rs.fix,q2.rs.fix];exact⟨x,y,⟨rfl,rfl⟩,q1,q2,g,hg⟩
 ·obtain⟨j,p,hj1,hj2,hj3⟩:=Pq hz;have hjl:=aK hj2;have hj2':=(zA.1 hj2).2;have hpos:L.length≠0:=by omega
  have hposI: ¬((L.length:Int)≤0):=by omega
  have hpos2:0<L.length:=by omega
  simp [hz,hpos,hposI,hpos2];refine ax.pure _ (fun _=>yK L (by omega)) ?_;simp [hj1,hj2,hj2',hjl,ae];refine ax.pure _ (fun _=>by simpa [ae] using Af p) ?_;simp [hj3];refine ax.any (by simpa [aA] using hbld) ?_;intro v' h2 hh;obtain⟨x,y,rfl,cx,cy,hs⟩:=fin (v':=v') (h2:=h2) (by simpa [aA] using hh);simp [cx,cy];refine ax.any hs ?_;rintro v h' ⟨rfl,q1,q2,g,hg⟩;simp [q1.rs.fix,q2.rs.fix];exact⟨x,y,⟨rfl,rfl⟩,q1,q2,g,hg⟩
theorem Ba (t:aY)(l:List ay)(i:Nat)(V:List Bytes):(((V.take i).map fun v=>bI t (jM l v) v).flatMap (·.trips)).length≤i*(17*l.length)∧(((V.take i).map fun v=>bI t (jM l v) v).flatMap (·.out)).length≤i*(19*l.length):=by
 have hb: ∀v,(bI t (jM l v) v).trips.length≤17*l.length∧(bI t (jM l v) v).out.length≤19*l.length:=fun v=>by
  have h1:=xX t (jM l v) v;have h2:=lv l v;constructor <;> omega
 have hi:((V.take i).map fun v=>bI t (jM l v) v).length≤i:=by simp;omega
 constructor
 ·refine Nat.le_trans (BL (k:=17*l.length) fun w hw=> ?_) (Nat.mul_le_mul_right _ hi);obtain⟨v,_,rfl⟩:=List.mem_map.1 hw;exact (hb v).1
 ·refine Nat.le_trans (BL (k:=19*l.length) fun w hw=> ?_) (Nat.mul_le_mul_right _ hi);obtain⟨v,_,rfl⟩:=List.mem_map.1 hw;exact (hb v).2
def jB (t:aY)(L:List ay)(V:List Bytes)(i:Nat):List bW:=((V.take i).map fun v=>bI t (jM L v) v).flatMap (·.trips)
def uP (t:aY)(L:List ay)(V:List Bytes)(i:Nat):List kD:=((V.take i).map fun v=>bI t (jM L v) v).flatMap (·.out)
theorem Km {t:aY} {L:List ay} {V:List Bytes} {i:Nat} {v:Bytes} (h:V[i]? =some v):jB t L V (i+1)=jB t L V i++(bI t (jM L v) v).trips∧uP t L V (i+1)=uP t L V i++(bI t (jM L v) v).out:=by
 constructor <;> simp [jB,uP,zM,h]
theorem DU (l:List bW): ∀e∈l.map aD,∀y∈e,y.Data:=fun e he y hy=>by
 obtain⟨m,_,rfl⟩:=List.mem_map.1 he;simp only [aD,List.mem_cons,List.not_mem_nil,or_false] at hy;rcases hy with rfl | rfl | rfl | rfl | rfl
 all_goals first | exact .ro _ (fun e he y hy=>by obtain⟨s,_,rfl⟩:=List.mem_map.1 he;simp [ak] at hy;rcases hy with rfl | rfl | rfl <;> simp) | simp
theorem GA (l:List kD): ∀e∈l.map bf,∀y∈e,y.Data:=fun e he y hy=>by
 obtain⟨m,_,rfl⟩:=List.mem_map.1 he;simp [bf] at hy;rcases hy with rfl | rfl <;> simp
theorem Kl (t:aY)(l:List ay)(v:Bytes)(hL:oG l)(hT:A7 t):
  aa Tryz.prog gl 39 [.agg (aA t),.ro (l.map ae),.str v] h fun x h'=>x= .tup [.ro ((bI t l v).trips.map aD),.ro ((bI t l v).out.map bf)]∧h'=h:=by
 refine aa.fresh' ((DT t l v hL.ok (by have:=hL.n;omega) hL.id hT.pt hT.p hT.l hT.s).mono ?_);rintro x h' ⟨x,y,rfl,hx,hy,hg⟩;exact⟨hg,.tup' (.cons (hx.frz (Nat.le_refl _) (DU _)) (.cons (hy.frz (Nat.le_refl _) (GA _)) .nil))⟩
set_option maxHeartbeats 8000000 in
theorem RI (t:aY)(l:List ay) {x:AV} (hx:Rs 8 h x (l.map ae))(hL:oG l)(hT:A7 t)(hE:(og t l).length<20):
  aa Tryz.prog gl 16 [.agg (aA t),x] h fun v h'=> ∃x y,v= .tup [x,y]∧Ls 5 h.length h' x ((dK (allT t l)).map aD)∧Ls 2 h.length h' y ((iC (og t l)).map bf)∧ ∃g,h'=h++g:=by
 refine aa.body Tryz.f16 _ mixed Tryz.func16 rfl rfl (by simp [Tryz.ntmps16]) ?_;have fx:=hx.fix;simp [fx,aA];refine ax.pure _ (fun _=>FZ l (hx.append _) hL.ok hL.n) ?_;have hL1:=hL.once;have eT:allT t l=jB t (aW l) (dI (aW l)) (dI (aW l)).length:=by rw [jB,List.take_length];rfl
 have eE:og t l=uP t (aW l) (dI (aW l)) (dI (aW l)).length:=by rw [uP,List.take_length];rfl
 rw [eE] at hE;rw [eT,eE];have hne: ∀i,∀a∈jB t (aW l) (dI (aW l)) i,a.stops≠[]:=fun i a ha=>by
  obtain⟨w,hw,ha⟩:=List.mem_flatMap.1 ha;obtain⟨v,_,rfl⟩:=List.mem_map.1 hw;exact EO _ _ _ a ha
 have hVl:=yT (aW l);generalize aW l=L at*;clear eT eE hx fx hL;have hLn:=hL1.n;simp;refine ax.pure _ (fun _=>yF L hLn) ?_;generalize dI L=V at*;have hlen: ∀i,i≤V.length→(jB t L V i).length≤8000∧(uP t L V i).length≤8000:=fun i hi=>by
  have h1:=Ba t L i V;have h2:i*(17*L.length)≤20*(17*20):=Nat.mul_le_mul (by omega) (by omega);have h3:i*(19*L.length)≤20*(19*20):=Nat.mul_le_mul (by omega) (by omega);unfold jB uP;omega
 simp;refine aT.up mixed V.length (fun i fr H=>fr 2= .ptr h.length 0 0∧fr 6= .ro (L.map ae)∧fr 16= .ro (V.map aO)∧fr 17= .int .i64 V.length∧fr 18= .int .i64 i∧(∃g,H=(h++[.cells 3 [aA t]])++g)∧
   (∃x,fr 7=x∧Ls 5 (h.length+1) H x ((jB t L V i).map aD))∧ ∃y,fr 8=y∧Ls 2 (h.length+1) H y ((uP t L V i).map bf)) 0 (by omega)
  ⟨by simp,by simp,by simp,by simp,by simp,⟨[],by simp [aA]⟩,⟨.nil,by simp,by simpa [jB] using Ls.nil⟩,.nil,by simp,by simpa [uP] using Ls.nil⟩ ?_
 rintro i fr H hi ⟨e2,e6,e16,e17,e18,hB,⟨x,e7,hx⟩,y,e8,hy⟩;have fx:=hx.rs.fix;have fy:=hy.rs.fix;have hlB:=bJ hB;simp at hlB;have hT0:H[h.length]? =some (.cells 3 [aA t]):=by obtain⟨g,rfl⟩:=hB;simp
 have hT3:=at3 hT0;simp only [aA] at hT3;have hli:=hlen i hi;rcases zN i V.length with hlt | hge
 ·obtain⟨v,hv,hv'⟩:=aJ hlt;have ew:=aB (i:=i) (by omega);have hltI:(i:Int)<V.length:=by omega
  obtain⟨q1,q2⟩:=Km (t:=t) (L:=L) hv;have hLv:=hL1.of v;have hol:=lv L v;have hbl:=xX t (jM L v) v;simp [-aj,-au,-ah,-AV.solid,e2,e6,e7,e8,e16,e17,e18,hlt,hltI,hv,hv',hT3,aO];refine⟨by decide,?_⟩;refine ax.pure _ (fun _=>LG L v hL1.ok hLn) ?_;simp [-aj,-au,-ah,-AV.solid,e2,e6,e7,e8,e16,e17,e18,hlt,hltI,hv,hv',hT3,aO];refine ax.pure _ (fun _=>by simpa [aA] using Kl t (jM L v) v hLv hT) ?_;simp [-aj,-au,-ah,-AV.solid,e2,e6,e7,e8,e16,e17,e18,fx,fy];refine aN (lo:=h.length+1) (n:=5) (es:=(jB t L V i).map aD) (ys:=(bI t (jM L v) v).trips.map aD) hx (by omega) (jQ (Rs.ro (MC _)) (by simp) (by simp) (by simp)) (by simp;omega) ?_;intro s1 H1 hs1 hg1 hn1;have hs1f:=hs1.rs.fix;have hy1:=gQ hy hx (by decide) hg1;have hB1:=hg1.base (h++[.cells 3 [aA t]]) (by simp) hB;simp [-aj,-au,-ah,-AV.solid,e2,e6,e7,e8,e16,e17,e18,fx,fy,hs1f];refine aN (lo:=h.length+1) (n:=2) (es:=(uP t L V i).map bf) (ys:=(bI t (jM L v) v).out.map bf) hy1 (by have:=bJ hB1;simp at this;omega) (jQ (Rs.ro (Qg _)) (by simp) (by simp) (by simp)) (by simp;omega) ?_;intro s2 H2 hs2 hg2 hn2;have hs2f:=hs2.rs.fix;have hx2:=gQ hs1 hy1 (by decide) hg2;have hB2:=hg2.base (h++[.cells 3 [aA t]]) (by simp) hB1;simp [-aj,-au,-ah,-AV.solid,e2,e6,e7,e8,e16,e17,e18,fx,fy,hs1f,hs2f,ew];refine⟨i+1,by omega,by omega,by omega,by simpa using hB2,?_,?_⟩
  ·rw [q1];simpa using hx2
  ·rw [q2];simpa using hs2
 ·obtain rfl:i=V.length:=by omega
  simp [-aj,-au,-ah,-AV.solid,e2,e6,e7,e8,e16,e17,e18,fx,fy];refine ax.any (zW (lo:=h.length) _ _ (jW hx (by omega)) (jW hy (by omega)) (hne _) (by omega) (by omega)) ?_;rintro v h' ⟨rfl,q1,q2,q3⟩;simp [q1.rs.fix,q2.rs.fix];obtain⟨g,hg⟩:=hB;exact⟨x,y,⟨rfl,rfl⟩,q1,q2,q3 h (Nat.le_refl _) ⟨_,by rw [hg,zK]⟩⟩
end Go.Proofs.YtkpioblbeiaefaaGreat
end
section
namespace Go.Toll
open Go Go.Abs
theorem Tk {t:aY} {veh:Bytes} {cls:Bytes→Int} {w:bS} {s:aX} {k:Nat} (h1: ∀x∈w.trips,x.stops.length≤k)(h2:w.opn.length≤k):(∀x∈(bV t veh cls w s).trips,x.stops.length≤k+1)∧(bV t veh cls w s).opn.length≤k+1:=by
 have key:(∀x∈(lC t veh cls w s).trips,x.stops.length≤k+1)∧(lC t veh cls w s).opn.length≤k+1:=by
  unfold lC;split
  ·refine⟨fun x hx=> ?_,by simp;omega⟩;rcases List.mem_append.1 hx with hx | hx
   ·have:=h1 x hx;omega
   ·obtain rfl:=List.mem_singleton.1 hx;simp [kz]
  ·exact⟨fun x hx=>by have:=h1 x hx;omega,by simp⟩
  ·refine⟨fun x hx=> ?_,by simp⟩;rcases List.mem_append.1 hx with hx | hx
   ·have:=h1 x hx;omega
   ·obtain rfl:=List.mem_singleton.1 hx;simp [kz];omega
  ·exact⟨fun x hx=>by have:=h1 x hx;omega,by simp;omega⟩
  ·exact⟨fun x hx=>by have:=h1 x hx;omega,by simp⟩
  ·exact⟨fun x hx=>by have:=h1 x hx;omega,by simp;omega⟩
 unfold bV;split <;> exact key
theorem M0 {t:aY} {veh:Bytes} {cls:Bytes→Int}: ∀(l:List aX) (w:bS) (k:Nat),(∀x∈w.trips,x.stops.length≤k)→w.opn.length≤k→ ∀x∈(l.foldl (bV t veh cls) w).trips,x.stops.length≤k+l.length
 | [],w,k,h1,_=>h1
 | s::l,w,k,h1,h2=>fun x hx=>by
  obtain⟨q1,q2⟩:=Tk (t:=t) (veh:=veh) (cls:=cls) (s:=s) h1 h2;have:=M0 l _ (k+1) q1 q2 x hx;simp;omega
theorem P6 (t:aY)(l:List ay)(v:Bytes): ∀x∈(bI t l v).trips,x.stops.length≤17*l.length:=fun x hx=>by
 have h:=M0 (t:=t) (veh:=v) (cls:=rW (jL l l.length)) (gK t l) (bP t l (bT (aH t).net (bC t l))) 0 (by simp [bP]) (by simp [bP]) x hx;have h1:=(wz (SV t) (l:=jV (aH t).net (bC t l))).2;have h2:(jV (aH t).net (bC t l)).length≤l.length:=Nat.le_trans (xe _ _ _) (nC t l);have h3:(gK t l).length≤17*l.length:=Nat.le_trans h1 (by omega);omega
theorem ML (t:aY)(l:List ay): ∀x∈allT t l,x.stops.length≤17*l.length:=fun x hx=>by
 obtain⟨w,hw,hx⟩:=List.mem_flatMap.1 hx;obtain⟨v,_,rfl⟩:=List.mem_map.1 hw;have h1:=P6 _ _ _ x hx;have h2:=lv (aW l) v;have h3:=j6 l;omega
theorem KU {t:aY} (hz:bX t=0) {l:List ay} (h: ∀p∈l,nu t p)(hn:l.length≤1024)(v:Bytes):(bI t l v).out.length≤l.length:=by
 have hp:(nN (bI t l v)).Perm (l.map (·.id)):=List.perm_iff_count.2 fun a=>rT hz h hn v a;have:=hp.length_eq;rw [nN,List.length_append,List.length_map,List.length_map] at this;omega
theorem IE {t:aY} (hz:bX t=0) {l:List ay} (h: ∀p∈l,nu t p)(hn:l.length≤1024):(og t l).length≤l.length:=by
 have hp:(((allT t l).flatMap fun x=>bu x.stops)++(og t l).map (·.id)).Perm ((aW l).map (·.id)):=
  List.perm_iff_count.2 fun a=>by rw [List.count_append];exact KH hz h hn a
 have:=hp.length_eq;have h1:=j6 l;rw [List.length_append,List.length_map,List.length_map] at this;omega
def Ui (c:Nat):Nat:=if 97≤c∧c≤122 then c - 32 else c
def okB (c:Nat):Bool:=decide (65≤c∧c≤90) || decide (48≤c∧c≤57)
def uW:Bytes→Option Bytes
 | []=>some []
 | c::r=>if c.toNat=32∨c.toNat=45 then uW r else if okB (Ui c.toNat)=true then (uW r).map fun l=>UInt8.ofNat (Ui c.toNat)::l else none
def xx (s:Bytes):Bytes×Int:=match uW s with
 | none=>([],19)
 | some b=>if b.length<2∨10<b.length then ([],19) else (b,0)
def z8 (ev:Bool)(c:Nat):Int:=if 9<(if ev=true then 2*((c:Int) - 48) else (c:Int) - 48) then (if ev=true then 2*((c:Int) - 48) else (c:Int) - 48) - 9 else (if ev=true then 2*((c:Int) - 48) else (c:Int) - 48)
def Ij:Bool→Int→Bytes→Int
 | _,n,[]=>n
 | ev,n,c::r=>if c.toNat<48∨57<c.toNat then -1 else Ij (!ev) (n+z8 ev c.toNat) r
def Kb (s:Bytes):Int:=if s.length≠12 then 18 else if Ij true 0 s<0∨(Ij true 0 s).tmod 10≠0 then 18 else 0
def yj (n:Nat):Bytes:=if h:n=0 then [] else yj (n / 10)++[UInt8.ofNat (48+n % 10)]
termination_by n
decreasing_by omega
theorem oW:yj 0=[]:=by rw [yj];rfl
theorem wW {n:Nat} (h:n≠0):yj n=yj (n / 10)++[UInt8.ofNat (48+n % 10)]:=by rw [yj,dif_neg h]
def El (n:Nat):Bytes:=if n=0 then [48] else yj n
def ow (l:List jq)(i:Nat):Int:=match l[i]? with
 | none=>0
 | some s=>if dW s.dev=false then 6 else if s.seq<0∨2147483648<s.seq then 2 else if i=0 then 0 else match l[i - 1]? with
  | none=>0
  | some r=>if 0≤eu r s then 15 else 0
def mg (l:List jq):Int:=cz ((List.range l.length).map (ow l))
theorem zf: ∀ {l:List Int},cz l=0→ ∀x∈l,x=0
 | [],_,x,hx=>by cases hx
 | a::r,h,x,hx=>by
  rw [cz] at h;by_cases c:a=0
  ·rw [if_neg (by simpa using c)] at h;rcases List.mem_cons.1 hx with rfl | hx
   ·exact c
   ·exact zf h x hx
  ·rw [if_pos c] at h;exact absurd h c
def R3 (p:ay):Bytes:=match p.srcs with
 | []=>[]
 | a::_=>a.dev++[46]++El a.seq.toNat
def sZ (n:bn)(p:ay):Int:=
 if (dF n p.point).isSome=false then 16
 else if bK p.time=false then 12
 else if p.tag=[]∧p.plate=[] then 1
 else if p.tag≠[]∧Kb p.tag≠0 then Kb p.tag
 else if p.plate≠[]∧((xx p.plate).2≠0∨(xx p.plate).1≠p.plate) then 19
 else if p.cls<0∨9<p.cls then 20
 else if p.score<0∨1000<p.score then 1
 else if p.srcs.length<1∨24<p.srcs.length then 3
 else if mg p.srcs≠0 then mg p.srcs
 else if p.id≠R3 p then 6 else 0
theorem src_ok {l:List jq} (h:mg l=0) {i:Nat} {s:jq} (hs:l[i]? =some s):dW s.dev=true∧0≤s.seq∧s.seq≤2147483648:=by
 have h1:=zf h (ow l i) (List.mem_map.2 ⟨i,List.mem_range.2 (aK hs),rfl⟩);unfold ow at h1;rw [hs] at h1;simp only at h1;split at h1
 ·cases h1
 ·rename_i a;split at h1
  ·cases h1
  ·rename_i b;exact⟨by simpa using a,by omega,by omega⟩
theorem U4 {p:ay} (h:p.srcs≠[]):R3 p≠[]:=by
 unfold R3;split
 ·contradiction
 ·simp
theorem FC {t : aY} {p : ay} (h : sZ t.net p = 0) (hz : bX t = 0) : nu t p ∧ p.srcs.length ≤ 24 ∧ p.id.length ≤ 1000 ∧ p.tag.length ≤ 12 := by
  unfold sZ at h
  split at h
  · cases h
  rename_i a1
  split at h
  · cases h
  rename_i a2
  split at h
  · cases h
  rename_i a3
  split at h
  · rename_i a4; exact absurd h a4.2
  rename_i a4
  split at h
  · cases h
  split at h
  · cases h
  split at h
  · cases h
  split at h
  · cases h
  rename_i a8
  split at h
  · rename_i a9; exact absurd h a9
  rename_i a9
  split at h
  · cases h
  rename_i a10
  have e10 : p.id = R3 p := by simpa using a10
  have hne : p.srcs ≠ [] := fun e => a8 (.inl (by rw [e]; decide))
  refine ⟨⟨?_, by simpa using a2, ?_, ?_⟩, by omega, ?_, ?_⟩
  · have hv := gD hz
    have hn := fE t
    rw [hv] at hn
    rw [dF, if_pos hn] at a1
    rw [aF, List.any_eq_true]
    cases hf : t.net.pts.find? fun q => decide (q.name = p.point) with
    | none => rw [hf] at a1; simp at a1
    | some q => exact ⟨q, List.mem_of_find?_eq_some hf, by simpa using List.find?_some hf⟩
  · rw [e10]; exact U4 hne
  · by_cases c : p.tag = []
    · exact .inr fun e => a3 ⟨c, e⟩
    · exact .inl c
  · rw [e10]
    unfold R3
    cases hsr : p.srcs with
    | nil => exact absurd hsr hne
    | cons s r =>
      have h0 : mg p.srcs = 0 := by simpa using a9
      have := src_ok h0 (i := 0) (s := s) (by rw [hsr]; rfl)
      have hnm : s.dev.length ≤ 12 := by
        have h1 := this.1
        unfold dW at h1
        simp at h1
        exact h1.1.2
      have hf : ∀ n : Nat, (yj n).length ≤ n := by
        intro n
        induction n using Nat.strongRecOn with
        | _ n ih =>
          by_cases c : n = 0
          · subst c; rw [oW]; simp
          · rw [wW c, List.length_append]
            have := ih (n / 10) (by omega)
            simp
            omega
      have hf2 : ∀ k n : Nat, n < 10 ^ k → (yj n).length ≤ k := by
        intro k
        induction k with
        | zero => intro n hn; have : n = 0 := by simpa using hn
                  subst this; rw [oW]; simp
        | succ k ih =>
          intro n hn
          by_cases c : n = 0
          · subst c; rw [oW]; simp
          · rw [wW c, List.length_append]
            have := ih (n / 10) (by rw [Nat.pow_succ] at hn; omega)
            simp
            omega
      have hl : (El s.seq.toNat).length ≤ 20 := by
        unfold El
        split
        · simp
        · exact hf2 20 _ (by have : s.seq.toNat ≤ 2147483648 := by omega
                             exact Nat.lt_of_le_of_lt this (by decide))
      simp
      omega
  · by_cases c : p.tag = []
    · rw [c]; simp
    · have h1 : Kb p.tag = 0 := by
        by_cases d : Kb p.tag = 0
        · exact d
        · exact absurd ⟨c, d⟩ a4
      unfold Kb at h1
      split at h1
      · cases h1
      · rename_i h2; have : p.tag.length = 12 := by simpa using h2
        omega
end Go.Toll
end
