/- Part 21 of the lemmas below the statements of this seat: GrD. -/
import Derived.Test.YtkpioblbeiaefaaGreatPb20
set_option linter.unusedSectionVars false
set_option linter.unusedVariables false
set_option linter.unusedSimpArgs false
set_option linter.unnecessarySimpa false
set_option maxRecDepth 100000
namespace Go.Proofs.YtkpioblbeiaefaaGreat
open Go Go.Abs Go.Toll
variable {gl : aR} {h : ak}
theorem TZ {H:ak} {b:Nat} {o:cZ} (h:H[b]? =some o):H.set b o=H:=by
 refine List.ext_getElem? fun i=> ?_;by_cases e:b=i
 ·subst e;rw [zI (zA.1 h).1,h]
 ·rw [zJ e]
theorem Ls.isOwn {n lo:Nat} {H:ak} {x:AV} {es:List (List AV)} (r:Ls n lo H x es)(h:es≠[]): ∃b,x= .own b 0 es.length∧lo≤b∧H[b]? =some (.cells n es):=by
 rcases r.1 with⟨_,e⟩ | h1
 ·exact absurd e h
 ·exact h1
structure xW (h H:ak)(q px lb M:Nat)(v:bv)(cs:List AV)(st:St):Prop where
 net:H[q]? =some (.cells 2 [bE v])
 least:H[lb]? =some (.cells 1 (MS st))
 nest:gu 1 (q+1) H (.own px 0 cs.length) cs (V6 st)
 high: ∀b off len,AV.own b off len∈cs→M≤b
 base: ∃g,H=h++g
 mle:M≤H.length
 ne:px≠lb∧q<lb∧lb<M∧px<M∧q<px∧h.length≤q
section
variable {H H' : ak} {q px lb M : Nat} {v : bv} {cs : List AV} {st : St}
theorem xW.all (r:xW h H q px lb M v cs st):(H[q]? =some (.cells 2 [bE v])∧q<H.length∧ ∀hl:q<H.length,H[q]= .cells 2 [bE v])∧(H[lb]? =some (.cells 1 (MS st))∧lb<H.length∧ ∀hl:lb<H.length,H[lb]= .cells 1 (MS st))∧
  H[px]? =some (.cells 1 (cs.map fun c=>[c]))∧px<H.length∧ ∀hl:px<H.length,H[px]= .cells 1 (cs.map fun c=>[c]):=
 ⟨⟨r.net,(zA.1 r.net).1,fun _=>(zA.1 r.net).2⟩,⟨r.least,(zA.1 r.least).1,fun _=>(zA.1 r.least).2⟩,r.nest.blk.1,r.nest.blk.2.1,r.nest.blk.2.2.1⟩
theorem xW.more (r:xW h H q px lb M v cs st)(g:ak):xW h (H++g) q px lb M v cs st:=
 ⟨by rw [zC r.all.1.2.1];exact r.net,by rw [zC r.all.2.1.2.1];exact r.least,r.nest.more g,r.high,aF r.base g,by have:=r.mle;simp;omega,r.ne⟩
theorem xW.grow {lo:Nat} {s:AV} (r:xW h H q px lb M v cs st)(g:Grow lo H s H')(hs: ∀b off len,s= .own b off len→M≤b∧ ∀off' len',AV.own b off' len'∉cs)(hlo:h.length≤lo):xW h H' q px lb M v cs st:=by
 obtain⟨n1,n2,n3,n4,n5,n6⟩:=r.ne;refine⟨g.keep _ _ r.net fun off len e=>by have:=(hs _ _ _ e).1;omega,g.keep _ _ r.least fun off len e=>by have:=(hs _ _ _ e).1;omega,?_,r.high,g.base h hlo r.base,Nat.le_trans r.mle g.len,r.ne⟩;refine r.nest.grow g (fun b e off len e'=> ?_) fun c hc b off len e off' len' e'=> ?_
 ·injection e with e1;have:=(hs _ _ _ e').1;omega
 ·exact (hs _ _ _ e').2 off len (e▸hc)
theorem xW.put (r:xW h H q px lb M v cs st) {k:Nat} {d:AV} {p:List Bytes} {t:Int} (hk:k<cs.length)(hd:Ls 1 M H d (p.map aO))(hn: ∀b off len,d= .own b off len→ ∀off' len',AV.own b off' len'∉cs):
  xW h ((H.set px (.cells 1 ((cs.map fun c=>[c]).set k [d]))).set lb (.cells 1 ((MS st).set k [.int .i64 t]))) q px lb M v (cs.set k d) (st.set k (p,t)):=by
 obtain⟨n1,n2,n3,n4,n5,n6⟩:=r.ne;obtain⟨⟨a1,a2,a3⟩,⟨b1,b2,b3⟩,c1,c2,c3⟩:=r.all;have hdb:=hd.above;refine⟨?_,?_,?_,fun b off len hm=> ?_,cu (cu r.base (by omega) _) (by omega) _,by have:=r.mle;simpa using this,r.ne⟩
 ·rw [zJ (by omega),zJ (by omega)];exact a1
 ·rw [Vo,zI (by simpa using b2)]
 ·rw [Vp,show (cs.set k d).length=cs.length by simp];have keep: ∀b o,H[b]? =some o→b≠px→(H.set px (.cells 1 ((cs.map fun c=>[c]).set k [d])))[b]? =some o:=fun b o hb h1=>by
   rw [zJ (Ne.symm h1)];exact hb
  have h1:=r.nest.put (h':=H.set px (.cells 1 ((cs.map fun c=>[c]).set k [d]))) (d:=d) (s:=p.map aO) rfl hk (hd.keep' fun b len o e ho=>keep b o ho (by have:=hdb _ _ _ e;omega)).rs (fun b off len e=>⟨by have:=hdb _ _ _ e;omega,by have:=hdb _ _ _ e;omega,fun off' len' hm=>absurd hm (hn b off len e off' len')⟩) (fun b o hb hne _=>keep b o hb hne) (zI c2);refine h1.keep fun b o hm ho=> ?_;rw [zJ]
  ·exact ho
  ·rcases hm with⟨off,len,e⟩ | ⟨off,len,e⟩
   ·injection e with e2;omega
   ·rcases List.mem_or_eq_of_mem_set e with e | e
    ·have:=r.high b off len e;omega
    ·have:=hdb b off len e.symm;omega
 ·rcases List.mem_or_eq_of_mem_set hm with hm | e
  ·exact r.high b off len hm
  ·exact hdb b off len e.symm
end
def Lv:Nat→Option (List (Nat×Nat)):=fun _=>none
set_option maxHeartbeats 8000000 in
theorem EG (n:bv)(a b:Bytes)(hp:n.pts.length≤1000)(hl:n.lks.length≤1000):af Tryz.prog gl 130 [.agg (bE n),.str a,.str b] h fun x h'=>x=wH (cO n) a b∧h'=h:=by
 refine af.fresh' (af.bodyL Lv Tryz.f130 _ mixed Tryz.func130 rfl rfl (by simp [Tryz.ntmps130]) ?_);simp;refine ay.pure _ (fun _=>pW n hp hl) ?_;have ok:=oh n;generalize cO n=v at*;have hlk:=ok.llen;have hpl:=ok.plen;simp;refine⟨by decide,ay.pure _ (fun _=>fo v.pts 64 a (by omega)) ?_⟩;rw [zG (by omega)];simp;refine ay.pure _ (fun _=>fo v.pts 64 b (by omega)) ?_;rw [zG (by omega)];simp [uJ];refine⟨fun q=> ?_,fun qa qb=> ?_⟩
 ·have hnone:jf v a b=none:=by
   unfold jf;rw [if_neg];rintro⟨c1,c2⟩;rcases q with q | q <;> simp_all
  rw [wH,hnone];exact .tup' (.cons .nil (.cons (.data _ (by simp)) (.cons (.data _ (by simp)) .nil)))
 ·rw [qW qa,qW qb];obtain⟨q,hq⟩: ∃q,q=h.length+1:=⟨_,rfl⟩;rw [show h.length+1=q from hq.symm];refine aW.upL Lv mixed v.pts.length (fun i fr H=>fr 1= .str a∧fr 9= .ptr q 0 0∧fr 10= .int .i64 (gZ v.pts a)∧fr 11= .int .i64 (gZ v.pts b)∧fr 14= .int .i64 i∧H[q]? =some (.cells 2 [bE v])∧(∃g,H=h++g)∧ ∃x y,fr 12=x∧fr 13=y∧Ls 1 (q+1) H x (List.replicate i [.nil])∧Ls 1 (q+1) H y (List.replicate i [.int .i64 0])∧ ∀b off len off' len',x= .own b off len→y≠ .own b off' len') 0 (by omega)
   ⟨by simp,by simp,by simp,by simp,by simp,by simp [hq],by simp,.nil,.nil,by simp,by simp,by simpa using Ls.nil,by simpa using Ls.nil,by simp⟩ ?_
  rintro i fr H hi ⟨e1,e9,e10,e11,e14,hN,hB,x,y,e12,e13,hx,hy,hxy⟩;have hxf:=hx.rs.fix;have hyf:=hy.rs.fix;have hqa:H[q]? =some (.cells 2 [bE v])∧q<H.length∧ ∀hl:q<H.length,H[q]= .cells 2 [bE v]:=⟨hN,(zA.1 hN).1,fun _=>(zA.1 hN).2⟩;have hbl:=aV hB;rcases zN i v.pts.length with hlt | hge
  ·have ew:=aB (i:=i) (by omega);simp [-ae,-ai,-ah,-AV.solid,Lv,hqa,e1,e9,e10,e11,e12,e13,e14,hlt,hxf];refine aG (lo:=q+1) (n:=1) (es:=List.replicate i [.nil]) (ys:=[[.nil]]) (by simpa using hx.more [.cells 1 [[.nil]]]) (by simp;omega) (by simp [bu]) (by simp;omega) ?_;intro s1 H1 hs1 hg1 hn1;have hs1f:=hs1.rs.fix;have hN1:H1[q]? =some (.cells 2 [bE v]):=hg1.keep q _ (by rw [zC hqa.2.1];exact hN) fun off len e=>by have:=hx.above _ _ _ e;omega
   have hB1:=hg1.base h (by omega) (aF hB _);have hqa1:H1[q]? =some (.cells 2 [bE v])∧q<H1.length∧ ∀hl:q<H1.length,H1[q]= .cells 2 [bE v]:=⟨hN1,(zA.1 hN1).1,fun _=>(zA.1 hN1).2⟩;have hy1:=(hy.more [.cells 1 [[.nil]]]).grow hg1 (fun b e _ off len e'=>hxy b off len _ _ e' e);have hy1f:=hy1.rs.fix;simp [-ae,-ai,-ah,-AV.solid,Lv,hqa1,e1,e9,e10,e11,e12,e13,e14,hlt,hs1f,hy1f];refine aG (lo:=q+1) (n:=1) (es:=List.replicate i [.int .i64 0]) (ys:=[[.int .i64 0]]) (by simpa using hy1.more [.cells 1 [[.int .i64 0]]]) (by simp;omega) (by simp [bu]) (by simp;omega) ?_;intro s2 H2 hs2 hg2 hn2;have hs2f:=hs2.rs.fix;have hl1:=hg1.len;have hl2:=hg2.len;have hN2:H2[q]? =some (.cells 2 [bE v]):=hg2.keep q _ (by rw [zC hqa1.2.1];exact hN1) fun off len e=>by have:=hy.above _ _ _ e;omega
   have hB2:=hg2.base h (by omega) (aF hB1 _);have hs12:=(hs1.more [.cells 1 [[.int .i64 0]]]).grow hg2 (fun b e _ off len e'=>by have h1:=hn1 _ _ _ e;have h2:=hy.rs.lt e';simp at h1;omega);have hqa2:q<H2.length:=(zA.1 hN2).1;simp [-ae,-ai,-ah,-AV.solid,Lv,e1,e9,e10,e11,e12,e13,e14,hlt,hs1f,hs2f,ew];refine⟨i+1,by omega,by omega,by omega,hN2,hB2,?_,?_,fun b off len off' len' e e'=> ?_⟩
   ·rw [List.replicate_succ'];exact hs12
   ·rw [List.replicate_succ'];exact hs2
   ·have h1:=hs1.rs.lt e;have h2:=hn2 _ _ _ e';simp at h2;omega
  ·obtain rfl:i=v.pts.length:=by omega
   have hnp:0<v.pts.length:=Nat.lt_of_le_of_lt (Nat.zero_le _) (sI qa);obtain⟨px,rfl,hpx1,hpx2⟩:=Ls.isOwn hx (by rw [ne_eq,List.replicate_eq_nil_iff];omega);obtain⟨lb,rfl,hlb1,hlb2⟩:=Ls.isOwn hy (by rw [ne_eq,List.replicate_eq_nil_iff];omega);rw [List.length_replicate] at*;have hne:px≠lb:=fun e=>hxy px 0 _ 0 _ rfl (by rw [e]);obtain⟨M,hM⟩: ∃M,M=H.length:=⟨_,rfl⟩;have hpxl:=aK hpx2;have hlbl:=aK hlb2;have hNest:=gu.ofNils (n:=1) hx;have hpa:=sI qa;have hpb:=sI qb;have hR0:xW h (H++[.cells 1 [aO a]]) q px lb M v (List.replicate v.pts.length .nil) (st0 v.pts.length):=by
    refine⟨by rw [zC hqa.2.1];exact hN,by rw [zC hlbl,V5];exact hlb2,?_,fun b off len hm=> ?_,aF hB _,by simp;omega,⟨hne,by omega,by omega,by omega,by omega,by omega⟩⟩
    ·rw [Zg,List.length_replicate];exact hNest.more _
    ·simp at hm
   have hR1:=hR0.put (k:=gZ v.pts a) (d:= .own M 0 1) (p:=[a]) (t:=0) (by simpa using hpa) (Ls.own (es:=[aO a]) (by simp [hM]) (Nat.le_refl _) (by simp) (by simp [aO])) (fun b off len _ off' len' hm=>by simp at hm);rw [TZ (b:=lb) (by
    rw [zJ hne,hR0.least];congr 2
    rw [V5];refine List.ext_getElem? fun i=> ?_;by_cases e:gZ v.pts a=i
    ·subst e;rw [zI (by simpa using hpa),List.getElem?_replicate,if_pos hpa]
    ·rw [zJ e]),←Tu] at hR1
   simp [-ae,-ai,-ah,-AV.solid,Lv,hqa,e1,e9,e10,e11,e12,e13,e14,hpx2,(zA.1 hpx2).2,hpxl,hpa];rw [←hM];refine aW.upL Lv mixed v.pts.length (fun r fr H=>fr 9= .ptr q 0 0∧fr 11= .int .i64 (gZ v.pts b)∧fr 12= .own px 0 v.pts.length∧fr 13= .own lb 0 v.pts.length∧fr 15= .int .i64 r∧ ∃cs,xW h H q px lb M v cs (Q4 v a r 0)∧cs.length=v.pts.length) 0 (by omega)
    ⟨by simp [e9],by simp [e11],by simp [e12],by simp [e13],by simp,(List.replicate v.pts.length .nil).set (gZ v.pts a) (.own M 0 1),?_,by simp⟩ ?_
   ·rw [Ty];have e:(H.set px (.cells 1 (((List.replicate v.pts.length AV.nil).map fun c=>[c]).set (gZ v.pts a) [.own M 0 1])))++[cZ.cells 1 [aO a]]=(H++[cZ.cells 1 [aO a]]).set px (.cells 1 (((List.replicate v.pts.length AV.nil).map fun c=>[c]).set (gZ v.pts a) [.own M 0 1])):=by
     rw [List.set_append_left _ _ hpxl]
    rw [←e] at hR1;simpa [aO] using hR1
   clear hR0 hR1 hNest hx hy hxf hyf hpx2 hlb2 e1 e9 e10 e11 e12 e13 e14 hN hB hqa hbl hi hge hxy hpxl hlbl;rintro r fr H hr ⟨e9,e11,e12,e13,e15,cs,hR,hcl⟩;have hok:=Tw ok qa r 0;rcases zN r v.pts.length with hltr | hger
   ·have ewr:=aB (i:=r) (by omega);simp [-ae,-ai,-ah,-AV.solid,Lv,hR.all,e9,e11,e12,e13,e15,hltr];refine aW.upL Lv mixed v.lks.length (fun i fr H=>fr 9= .ptr q 0 0∧fr 11= .int .i64 (gZ v.pts b)∧fr 12= .own px 0 v.pts.length∧fr 13= .own lb 0 v.pts.length∧fr 15= .int .i64 r∧fr 16= .int .i64 i∧ ∃cs,xW h H q px lb M v cs (Q4 v a r i)∧cs.length=v.pts.length) 0 (by omega)
     ⟨by simp [e9],by simp [e11],by simp [e12],by simp [e13],by simp [e15],by simp,cs,hR,hcl⟩ ?_
    clear hR hcl cs e9 e11 e12 e13 e15 hok;rintro i fr H hi ⟨e9,e11,e12,e13,e15,e16,cs,hR,hcl⟩;rcases zN i v.lks.length with hlt | hge
    ·obtain⟨x,hx,hx'⟩:=aN hlt;have hxm:=zF hx;have ew:=aB (i:=i) (by omega);obtain⟨q1,q2,q3⟩:=ok.ends x hxm;obtain⟨r1,r2,r3⟩:=ok.rng x hxm;have hsu:=Tx a r hx;have hsl:=PP hlk a r i (by omega);have hst:=Tw ok qa r i;generalize Q4 v a r i=st at*;have hstl:=hst.len;have p1:=sI q1;have p2:=sI q2;have g1:=Kb hstl q1;have g2:=Kb hstl q2;obtain⟨cj,hcj,hcj'⟩:=aN (l:=cs) (i:=gZ v.pts x.src) (by omega);obtain⟨ck,hck,hck'⟩:=aN (l:=cs) (i:=gZ v.pts x.dst) (by omega);have hRj:=(hR.nest.each _ _ _ hcj (Cx g1)).1;have hRk:=(hR.nest.each _ _ _ hck (Cx g2)).1;have hjf:=hRj.fix;have p1':gZ v.pts x.src<cs.length:=by omega
     have p2':gZ v.pts x.dst<cs.length:=by omega
     have hmle:=hR.mle;have hjl:=(hRj.append [.cells 4 [jF x]]).len2;simp only [jF] at hjl;simp [-ae,-ai,-ah,-AV.solid,Lv,hR.all,e9,e11,e12,e13,e15,e16,hlt,hx,hx'];refine⟨by decide,ay.pure _ (fun _=>fo v.pts 64 x.src (by omega)) ?_⟩;rw [zG (by omega),qW q1];simp [-ae,-ai,-ah,-AV.solid,Lv,hR.all,e9,e11,e12,e13,e15,e16,hlt,hx,hx'];refine ay.pure _ (fun _=>fo v.pts 64 x.dst (by omega)) ?_;rw [zG (by omega),qW q2];simp [-ae,-ai,-ah,-AV.solid,Lv,hR.all,e9,e11,e12,e13,e15,e16,hlt,hx,hx',hcl,p1,p1',hcj,hcj',hjf,hjl,ew];by_cases hz:(jr v st x.src).1=[]
     ·simp [hz];have hR1:=hR.more [.cells 4 [jF x]];exact⟨i+1,by omega,by omega,by omega,cs,by rw [hsu,jT,if_pos hz];exact hR1,hcl⟩
     ·obtain⟨l,s,w1,w2,w3,w4⟩:=hst.walk x.src q1 hz;have wr:=vF ok w2;have wlen:=Kc (v:=v) hsl x.src;have wlen2:=Kc (v:=v) hsl x.dst;have wl:l.length+1≤1+128*r+i:=by rw [w1] at wlen;simpa using wlen
      simp [-ae,-ai,hz];refine aG (lo:=M) (n:=1) (es:=[]) (ys:=(jr v st x.src).1.map aO) Ls.nil (by simp;omega) (bL (by simpa using hRj.append [.cells 4 [jF x]]) (by simp) (by simp) (by simp)) (by simp;omega) ?_;intro s1 H1 hs1 hg1 hn1;have hs1f:=hs1.rs.fix;have hR1:=(hR.more [.cells 4 [jF x]]).grow (by simpa using hg1) (fun b off len e=>by cases e) (by have:=hR.ne;omega);have hx1:H1[H.length]? =some (.cells 4 [jF x]):=hg1.keep _ _ (by simp) fun off len e=>by cases e
      have hx1':=zA.1 hx1;obtain⟨hx1a,hx1b⟩:=hx1';have hx1c:H.length<H1.length:=hx1a;have hmle1:=hR1.mle;have hl1:=hg1.len;rw [List.nil_append] at hs1;simp [-ae,-ai,-ah,-AV.solid,Lv,hR1.all,e9,e11,e12,e13,e15,e16,hs1f,hx1,hx1b,hx1c];refine aG (lo:=M) (n:=1) (es:=(jr v st x.src).1.map aO) (ys:=[aO x.dst]) (by simpa [aO] using hs1.more [.cells 1 [aO x.dst]]) (by simp;omega) (by simp [bu,aO]) (by simp;omega) ?_;intro s2 H2 hs2 hg2 hn2;have hs2f:=hs2.rs.fix;have hnot1: ∀b off len,s1= .own b off len→M≤b∧ ∀off' len',AV.own b off' len'∉cs:=fun b off len e=>by
       have h1:=hn1 b off len e;simp at h1;exact⟨by omega,fun off' len' hm=>by have:=hR.nest.lt hm;omega⟩
      have hR2:=(hR1.more [.cells 1 [aO x.dst]]).grow (by simpa [aO] using hg2) hnot1 (by have:=hR.ne;omega);have hx2:H2[H.length]? =some (.cells 4 [jF x]):=hg2.keep _ _ (by rw [zC hx1c];exact hx1) fun off len e=>by have h1:=hn1 _ _ _ e;simp at h1;omega
      obtain⟨hx2c,hx2b⟩:=zA.1 hx2;have hl2:=hg2.len;have hRk2:=(hR2.nest.each _ _ _ hck (Cx g2)).1;have hkf:=hRk2.fix;have hd1:(MS st)[gZ v.pts x.src]? =some [.int .i64 (jr v st x.src).2]:=Ka g1;have hd2:(MS st)[gZ v.pts x.dst]? =some [.int .i64 (jr v st x.dst).2]:=Ka g2;obtain⟨hd1l,hd1'⟩:=zA.1 hd1;obtain⟨hd2l,hd2'⟩:=zA.1 hd2;have hdl:=PR st;have ewm:IntKind.i64.wrap ((jr v st x.src).2+x.min)=(jr v st x.src).2+x.min:=aD (by omega) (by omega);have hs2':Ls 1 M H2 s2 (((jr v st x.src).1++[x.dst]).map aO):=by simpa using hs2
      simp [-ae,-ai,-ah,-AV.solid,Lv,hR2.all,e9,e11,e12,e13,e15,e16,hs2f,hx2,hx2b,hx2c,hcl,p1,p1',p2,p2',hck,hck',hkf,hd1,hd1',hd1l,hd2,hd2',hd2l,hdl,hstl,ewm];refine⟨by decide,ay.pure _ (fun _=>JV ((jr v st x.src).2+x.min) (jr v st x.dst).2 ((jr v st x.src).1++[x.dst]) (jr v st x.dst).1 (by simp;omega) ?_ s2 ck hs2'.rs hRk2 (by omega)) ?_⟩
      ·intro z hz2;rcases List.mem_append.1 hz2 with hz2 | hz2
       ·rw [w1] at hz2;rcases List.mem_cons.1 hz2 with rfl | hz2
        ·exact J6 ok qa
        ·exact J6 ok ((Kn ok w2).1 z hz2)
       ·rw [List.mem_singleton.1 hz2];exact J6 ok q2
      ·have hnot2: ∀b off len,s2= .own b off len→ ∀off' len',AV.own b off' len'∉cs:=fun b off len e off' len' hm=>by
        have h1:=hn2 b off len e;have h2:=hR.nest.lt hm;simp at h1 hl1;omega
       have hput:=hR2.put (k:=gZ v.pts x.dst) (d:=s2) (p:=(jr v st x.src).1++[x.dst]) (t:=(jr v st x.src).2+x.min) p2' hs2' hnot2;have hn:px≠lb:=hne;have hpH:px≠H.length:=by have:=hR.all.2.2.2.1;omega
       have hlH:lb≠H.length:=by have:=hR.all.2.1.2.1;omega
       simp [List.getElem_set,List.getElem?_set,hn,hpH,hlH,-ae,-ai,-ah,-AV.solid,Lv,hR2.all,e9,e11,e12,e13,e15,e16,hs2f,hx2,hx2b,hx2c,hcl,p1,p1',p2,p2',hck,hck',hkf,hd1,hd1',hd1l,hd2,hd2',hd2l,hdl,hstl,ewm];refine⟨fun c=>⟨by decide,i+1,by omega,by omega,by omega,cs.set (gZ v.pts x.dst) s2,?_,by simp [hcl]⟩,fun c=>⟨i+1,by omega,by omega,by omega,cs,?_,hcl⟩⟩
       ·rw [hsu,jT,if_neg hz,if_pos c];exact hput
       ·rw [hsu,jT,if_neg hz,if_neg (by simp [c])];exact hR2
    ·obtain rfl:i=v.lks.length:=by omega
     rw [PO] at hR;simp [-ae,-ai,-ah,-AV.solid,Lv,hR.all,e9,e11,e12,e13,e15,e16,ewr];exact⟨r+1,by omega,by omega,by omega,cs,hR,hcl⟩
   ·obtain rfl:r=v.pts.length:=by omega
    rw [Tv] at hR hok;obtain⟨f1,f2⟩:=yY ok qa qb;generalize hst:PQ v a=st at*;have hstl:=hok.len;have g2:=Kb hstl qb;obtain⟨cb,hcb,hcb'⟩:=aN (l:=cs) (i:=gZ v.pts b) (by omega);obtain⟨hRb,hab⟩:=hR.nest.each _ _ _ hcb (Cx g2);have hbf:=hRb.fix;have hd2:(MS st)[gZ v.pts b]? =some [.int .i64 (jr v st b).2]:=Ka g2;obtain⟨hd2l,hd2'⟩:=zA.1 hd2;have hdl:=PR st;have hlen:((jr v st b).1.length:Int)=0↔(jr v st b).1=[]:=by rw [←List.length_eq_zero_iff];omega
    have hpbc:gZ v.pts b<cs.length:=by omega
    have hcond:aL v.pts a=true∧aL v.pts b=true:=⟨qa,qb⟩;simp [-ae,-ai,-ah,-AV.solid,Lv,hR.all,e9,e11,e12,e13,e15,hcl,hpb,hpbc,hcb,hcb',hbf,hRb.len2,hlen,hd2,hd2',hd2l,hdl,hstl];refine⟨fun c=>⟨hR.base,?_⟩,fun c=>⟨by decide,hR.base,?_⟩⟩
    ·have hnone:jf v a b=none:=by unfold jf;rw [if_pos hcond,hst,if_pos c]
     rw [wH,hnone];exact .tup' (.cons .nil (.cons (.data _ (by simp)) (.cons (.data _ (by simp)) .nil)))
    ·have hsome:jf v a b=some (jr v st b):=by unfold jf;rw [if_pos hcond,hst,if_neg c]
     rw [wH,hsome];exact .tup' (.cons (hRb.frzD (fun b off len e=>by have:=(hab b off len e).1;omega) (fZ _)) (.cons (.data _ (by simp)) (.cons (.data _ (by simp)) .nil)))
end Go.Proofs.YtkpioblbeiaefaaGreat
