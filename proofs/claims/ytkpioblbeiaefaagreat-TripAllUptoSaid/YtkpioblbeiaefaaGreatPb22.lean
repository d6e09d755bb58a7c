/- Part 22 of the lemmas below the statements of this seat: GrE. -/
import Derived.Test.YtkpioblbeiaefaaGreatPb20
set_option linter.unusedSectionVars false
set_option linter.unusedVariables false
set_option linter.unusedSimpArgs false
set_option linter.unnecessarySimpa false
set_option maxRecDepth 100000
namespace Go.Proofs.YtkpioblbeiaefaaGreat
open Go Go.Abs Go.Toll
variable {gl : aR} {h : ak}
def FX (n:Int):List AV:=[.int .i64 n]
structure tZ (h H:ak)(p m:Nat)(v:bv)(far:List Int)(x:AV)(Q:List Bytes):Prop where
 rr:H[p]? =some (.cells 3 [bf v m])
 dist:H[p+1]? =some (.cells 1 (far.map FX))
 queue:Oq 1 (p+2) H x (Q.map (wB v))
 base: ∃g,H=h++g
section
variable {H H' : ak} {p m : Nat} {v : bv} {far : List Int} {x : AV} {Q : List Bytes}
theorem tZ.all (b:tZ h H p m v far x Q):(H[p]? =some (.cells 3 [bf v m])∧p<H.length∧ ∀hl:p<H.length,H[p]= .cells 3 [bf v m])∧
  H[p+1]? =some (.cells 1 (far.map FX))∧p+1<H.length∧ ∀hl:p+1<H.length,H[p+1]= .cells 1 (far.map FX):=
 ⟨⟨b.rr,(zA.1 b.rr).1,fun _=>(zA.1 b.rr).2⟩,b.dist,(zA.1 b.dist).1,fun _=>(zA.1 b.dist).2⟩
theorem tZ.more (b:tZ h H p m v far x Q)(g:ak):tZ h (H++g) p m v far x Q:=
 ⟨by rw [zC b.all.1.2.1];exact b.rr,by rw [zC b.all.2.2.1];exact b.dist,b.queue.more g,aF b.base g⟩
theorem tZ.set (b:tZ h H p m v far x Q)(hp:h.length≤p)(far':List Int):tZ h (H.set (p+1) (.cells 1 (far'.map FX))) p m v far' x Q:=
 ⟨by rw [zJ (by omega)];exact b.rr,zI b.all.2.2.1,b.queue.put (by omega),cu b.base (by omega) _⟩
theorem tZ.push (b:tZ h H p m v far x Q) {lo:Nat} {x':AV} {Q':List Bytes} (g:Grow lo H x H')(hl:h.length≤lo)(q:Oq 1 (p+2) H' x' (Q'.map (wB v))):tZ h H' p m v far x' Q':=
 ⟨g.keep _ _ b.rr fun off len e=>by have:=b.queue.above _ _ _ e;omega,g.keep _ _ b.dist fun off len e=>by have:=b.queue.above _ _ _ e;omega,q,g.base h hl b.base⟩
theorem tZ.tail (b:tZ h H p m v far x Q) {x':AV} {Q':List Bytes} (q:Oq 1 (p+2) H x' (Q'.map (wB v))):tZ h H p m v far x' Q':=⟨b.rr,b.dist,q,b.base⟩
end
theorem Rs.based {n:Nat} {h H:ak} {x:AV} {es:List (List AV)} (r:Rs n h x es)(hb: ∃g,H=h++g):Rs n H x es:=by
 obtain⟨g,rfl⟩:=hb;exact r.append g
set_option maxHeartbeats 8000000 in
theorem Ns (v:bv)(m:Nat)(p:List Bytes)(y t:Bytes)(us:List Bool)(xu:AV)(ok:aY v)(hy:aL v.pts y=true)(ht:aL v.pts t=true)(hx:Rs 1 h xu (us.map lu))(hul:us.length=(bM v).length)(hus: ∀s,aL v.pts s=true→us[bz v s]? =some (decide (s∈p))):
  af Tryz.prog gl 198 [.agg (bf v m),.int .i64 (bz v y),.int .i64 (bz v t),xu] h fun r h'=>(∃n,r= .int .i64 n∧VQ v p y t n)∧h'=h:=by
 refine af.freshR (af.body Tryz.f198 _ mixed Tryz.func198 rfl rfl (by simp [Tryz.ntmps198]) ?_);have hnl:(bM v).length≤64:=by rw [mF];exact ok.plen
 have hlk:=ok.llen;obtain⟨q,hq⟩: ∃q,q=h.length:=⟨_,rfl⟩;have hxf:=hx.fix;simp [bf];refine⟨by omega,?_⟩;have hH0:tZ h (h++[.cells 3 [bf v m],.cells 1 ((List.replicate (bM v).length (0:Int)).map FX),.cells 1 [wB v y]]) q m v (List.replicate (bM v).length 0) (.own (q+2) 0 1) [y]:=
  ⟨by simp [hq],by simp [hq],Ls.oq (Ls.own (es:=[wB v y]) (by simp [hq]) (by omega) (by simp) (by simp [wB])),_,rfl⟩
 rw [List.map_replicate] at hH0;rw [←hq];have hst:=Hop.first (v:=v) (p:=p) (y:=y) (t:=t) ok hy;generalize hf0:List.replicate (bM v).length (0:Int)=far0 at*;refine aW.down mixed (fun M fr H=>fr 1= .int .i64 (bz v y)∧fr 2= .int .i64 (bz v t)∧fr 3=xu∧fr 4= .ptr q 0 0∧fr 9= .own (q+1) 0 (bM v).length∧ ∃x Q far,fr 10=x∧tZ h H q m v far x Q∧Hop v p y t far Q∧M=far.count 0+Q.length∧M≤100) (far0.count 0+1)
  ⟨by simp,by simp,by simp,by simp,by simp,.own (q+2) 0 1,[y],far0,by simp,by simpa [FX,wB,bf] using hH0,hst,by simp,by have:=List.count_le_length (a:=(0:Int)) (l:=far0);have:=hst.len;omega⟩ ?_
 clear hH0 hst;rintro M fr H ⟨e1,e2,e3,e4,e9,x,Q,far,e10,hH,hh,rfl,hM100⟩;have hqf:=hH.queue.rs.fix
 cases Q with
 | nil=>
  simp [-ae,-ai,-ah,-AV.solid,-aS,-aU,e10,hqf,hH.queue.rs.len2];exact⟨hH.base,_,.data _ (.int _ _),-1,rfl,.inl ⟨rfl,hh.none ok hy ht⟩⟩
 | cons u Q=>
  obtain⟨u1,u2⟩:=hh.qs u List.mem_cons_self;have hsh:=hh.head_short ok hy;have rx:=Rs.ix Tryz.prog hH.queue.rs 0 (by omega) (y:=wB v u) (by simp);have htl:=hH.queue.tail Tryz.prog (by omega);have hfl:=hh.len;have hgu:=Dx hfl u1;have hgu':=(zA.1 hgu).2;have hpu:=d9 u1;by_cases hut:u=t
  ·subst hut;have hfd:=hh.found ok hy;simp [-ae,-ai,-ah,-AV.solid,-aS,-aU,e1,e2,e3,e4,e9,e10,hqf,hH.queue.rs.len2,rx,htl,wB,hH.all,FX,hgu,hgu',hfl,hpu];exact⟨hH.base,_,.data _ (.int _ _),_,rfl,.inr ⟨hsh.1,hsh.2,hfd⟩⟩
  ·have hne: ¬(bz v u:Int)=bz v t:=fun e=>hut (iN ok u1 ht (by omega));have hrow:=nY (gW u1);have hrl:=(zA.1 hrow).1;have hrow':=(zA.1 hrow).2;have hrlen:=rF v u;have hH1:=hH.tail htl.1;have hm:=hh.pop hut;simp [-ae,-ai,-ah,-AV.solid,-aS,-aU,e1,e2,e3,e4,e9,e10,hqf,hH.queue.rs.len2,rx,htl,wB,bf,hH.all,hne,hrow,hrow',hrl];refine aW.up mixed (rowOf v u).length (fun k fr H=>fr 1= .int .i64 (bz v y)∧fr 2= .int .i64 (bz v t)∧fr 3=xu∧fr 4= .ptr q 0 0∧fr 9= .own (q+1) 0 (bM v).length∧fr 11= .int .i64 (bz v u)∧fr 39= .ro ((rowOf v u).map bV)∧fr 40= .int .i64 (rowOf v u).length∧fr 41= .int .i64 k∧
     ∃x Q' far',fr 10=x∧tZ h H q m v far' x Q'∧FP v p y t far' Q' u k∧0≤dS v far' u∧dS v far' u≤63∧far'.count 0+Q'.length=far.count 0+Q.length) 0 (by omega)
    ⟨by simp [e1],by simp [e2],by simp [e3],by simp [e4],by simp [e9],by simp,by simp,by simp,by simp,_,Q,far,by simp,hH1,hm,hsh.1,hsh.2,rfl⟩ ?_
   clear hH hh hH1 hm e1 e2 e3 e4 e9 e10 hqf rx htl hgu hgu' hfl u2 hsh;rintro k fr H hk ⟨e1,e2,e3,e4,e9,e11,e39,e40,e41,x,Q',far',e10,hH,hm,hu0,hu63,hc⟩;have hqf:=hH.queue.rs.fix;have hfl:=hm.len;rcases zN k (rowOf v u).length with hlt | hge
   ·obtain⟨r,hr,hr'⟩:=aN hlt;obtain⟨l,l1,rfl,l3,l4,l5,l6⟩:=ET ok hr;have ew:=aB (i:=k) (by omega);have hgd:=Dx hfl l6;have hgd':=(zA.1 hgd).2;have hpd:=d9 l6;have hgu:=Dx hfl u1;have hgu':=(zA.1 hgu).2;have hud:=hus l.dst l6;have hud':=(zA.1 hud).2;have hxH:=(Rs.based hx hH.base).append [.cells 3 [bV (bD v l)]];have rx:=Rs.ix Tryz.prog hxH (bz v l.dst) (by omega) (y:=[.bool (decide (l.dst∈p))]) (by simp [hud,lu]);have hH1:=hH.more [.cells 3 [bV (bD v l)]];simp only [Dn,bD] at rx;have hdy:(bz v l.dst:Int)=bz v y↔l.dst=y:=⟨fun e=>iN ok l6 hy (by omega),fun e=>by rw [e]⟩;have hdy':bz v l.dst=bz v y↔l.dst=y:=⟨fun e=>iN ok l6 hy e,fun e=>by rw [e]⟩;have ewf:IntKind.i64.wrap (dS v far' u+1)=dS v far' u+1:=aD (by omega) (by omega);simp [-ae,-ai,-ah,-AV.solid,-aS,-aU,e1,e2,e3,e4,e9,e10,e11,e39,e40,e41,hlt,hr,hr',bD,hH.all,hgd,hgd',hfl,hpd,FX,hxf,rx,hdy,hdy',hgu,hgu',hpu,ew,ewf,hqf];refine⟨fun c1 c2 c3=>⟨by decide,?_⟩,fun cc=>⟨k+1,by omega,by omega,by omega,Q',far',hH1,hm.old l1 ?_,hu0,hu63,hc⟩⟩
    ·have hS:=(hH.set (by omega) (far'.set (bz v l.dst) (dS v far' u+1))).more [.cells 3 [bV (bD v l)],.cells 1 [wB v l.dst]];rw [List.map_set] at hS;have hQl:Q'.length≤100:=by simp at hM100;omega
     refine GK (lo:=q+2) (n:=1) (es:=Q'.map (wB v)) (ys:=[wB v l.dst]) (by simpa [wB,FX,bD] using hS.queue) (by have:=hH.all;simp;omega) (by simp [bu,wB]) (by simp;omega) ?_;intro s1 H1 hs1 hg1 _;have hs1f:=hs1.rs.fix;have hHn:=hS.push (x':=s1) (Q':=Q'++[l.dst]) (by simpa [wB,FX,bD] using hg1) (by omega) (by simpa using hs1.oq);have hmn:=hm.new ok l1 c1 c2 c3 hy;have hfu:dS v (far'.set (bz v l.dst) (dS v far' u+1)) u=dS v far' u:=by
      rw [KU ok hfl l6 u1,if_neg];rintro rfl;rcases hm.at'.2.1 with e | e
      ·exact c2 e
      ·exact e c1
     have hz:=RO (far:=far') (i:=bz v l.dst) (n:=dS v far' u+1) (by rw [hgd,c1]) (by omega);simp [-ae,-ai,-ah,-AV.solid,-aS,-aU,e1,e2,e3,e4,e9,e11,e39,e40,e41,hs1f,ew];exact⟨k+1,by omega,by omega,by omega,Q'++[l.dst],_,hHn,hmn,by rw [hfu];exact hu0,by rw [hfu];exact hu63,by simp;omega⟩
    ·by_cases c1:dS v far' l.dst=0
     ·by_cases c2:l.dst=y
      ·exact .inr (.inl c2)
      ·exact .inl (List.mem_append_left _ (cc c1 c2))
     ·exact .inr (.inr c1)
   ·obtain rfl:k=(rowOf v u).length:=by omega
    rw [wT] at hm;have hh1:=hm.finish ok;simp [-ae,-ai,-ah,-AV.solid,e1,e2,e3,e4,e9,e10,e11,e39,e40,e41];exact⟨far'.count 0+Q'.length,by omega,Q',far',hH,hh1,rfl,by simp at hM100;omega⟩
end Go.Proofs.YtkpioblbeiaefaaGreat
namespace Go.Proofs.YtkpioblbeiaefaaGreat
open Go Go.Abs Go.Toll
variable {gl : aR} {h : ak}
theorem Oq.isOwn {n lo:Nat} {H:ak} {x:AV} {es:List (List AV)} (r:Oq n lo H x es)(h:es≠[]): ∃b off all,x= .own b off es.length∧lo≤b∧H[b]? =some (.cells n all)∧off+es.length≤all.length∧(all.drop off).take es.length=es:=by
 rcases r.1 with⟨_,e⟩ | h1
 ·exact absurd e h
 ·exact h1
theorem Gv (p:List Bytes)(x:AV)(lo:Nat)(hne:p≠[])(hx:Oq 1 lo h x (p.map aO))(hl:p.length≤1000000):af Tryz.prog gl 197 [x] h fun v h'=>v= .ro (p.map aO)∧h'=h:=by
 refine af.fresh' (af.body Tryz.f197 _ mixed Tryz.func197 rfl rfl (by simp [Tryz.ntmps197]) ?_);obtain⟨b,off,all,rfl,h1,h2,h3,h4⟩:=Oq.isOwn hx (by simpa using hne);obtain⟨hb,hb'⟩:=zA.1 h2;have hpn:=wo p;simp [h2,hb',hb];rw [List.length_map] at h3 h4;have hm:min p.length (all.length - off)=p.length:=by omega
 rw [h4,hm];refine⟨⟨h3,hpn,by omega,by omega⟩,?_⟩;have:=qy.ownD (n:=h.length) (b:=h.length+1) (m:=1) (off:=0) (len:=p.length) (es:=p.map aO) (es':=p.map aO) (h:=h++[.dead,.cells 1 (p.map aO)]) (by simp) (by omega) (by simp) (by rw [List.drop_zero,zG (by simp)]) (fZ p);exact this
def dJ (p:List Bytes):List AV:=[.ro (p.map aO)]
def xV (R:Nat):AV:= .fn (.func 196) [] [.ptr (R+5) 0 0,.ptr R 0 0,.ptr (R+4) 0 0,.ptr (R+1) 0 0,.ptr (R+2) 0 0,.ptr (R+6) 0 0]
structure iw (h H:ak)(R m:Nat)(v:bv)(t:Bytes)(us:List Bool)(p:List Bytes)(x:AV)(f:List (List Bytes))(y:AV):Prop where
 roads:H[R]? =some (.cells 3 [bf v m])
 goal:H[R+1]? =some (.cells 1 [[.int .i64 (bz v t)]])
 outB:H[R+2]? =some (.cells 1 [[y]])
 marks:H[R+3]? =some (.cells 1 (us.map lu))
 usedB:H[R+4]? =some (.cells 1 [[.own (R+3) 0 (bM v).length]])
 pathB:H[R+5]? =some (.cells 1 [[x]])
 walkB:H[R+6]? =some (.cells 1 [[xV R]])
 path:Oq 1 (R+7) H x (p.map aO)
 out:Ls 1 (R+7) H y (f.map dJ)
 apart: ∀b off len off' len',x= .own b off len→y≠ .own b off' len'
 base: ∃g,H=h++g
 ple:h.length≤R
section
variable {H H' : ak} {R m : Nat} {v : bv} {t : Bytes} {us us' : List Bool} {p p' : List Bytes} {x x' y y' : AV} {f f' : List (List Bytes)}
theorem iw.keep (w:iw h H R m v t us p x f y)(hk: ∀b o,b<R+7→H[b]? =some o→H'[b]? =some o)(hx:Oq 1 (R+7) H' x (p.map aO))(hy:Ls 1 (R+7) H' y (f.map dJ))(hb: ∃g,H'=h++g):iw h H' R m v t us p x f y:=
 ⟨hk _ _ (by omega) w.roads,hk _ _ (by omega) w.goal,hk _ _ (by omega) w.outB,hk _ _ (by omega) w.marks,hk _ _ (by omega) w.usedB,hk _ _ (by omega) w.pathB,hk _ _ (by omega) w.walkB,hx,hy,w.apart,hb,w.ple⟩
theorem iw.more (w:iw h H R m v t us p x f y)(g:ak):iw h (H++g) R m v t us p x f y:=
 w.keep (fun b o _ ho=>by rw [zC (zA.1 ho).1];exact ho) (w.path.more g) (w.out.more g) (aF w.base g)
theorem iw.all (w:iw h H R m v t us p x f y):(H[R]? =some (.cells 3 [bf v m])∧H[R+1]? =some (.cells 1 [[.int .i64 (bz v t)]])∧H[R+2]? =some (.cells 1 [[y]])∧H[R+3]? =some (.cells 1 (us.map lu))∧H[R+4]? =some (.cells 1 [[.own (R+3) 0 (bM v).length]])∧H[R+5]? =some (.cells 1 [[x]])∧H[R+6]? =some (.cells 1 [[xV R]]))∧
  (R<H.length∧R+1<H.length∧R+2<H.length∧R+3<H.length∧R+4<H.length∧R+5<H.length∧R+6<H.length)∧
  ((∀hl:R<H.length,H[R]= .cells 3 [bf v m])∧(∀hl:R+1<H.length,H[R+1]= .cells 1 [[.int .i64 (bz v t)]])∧(∀hl:R+2<H.length,H[R+2]= .cells 1 [[y]])∧(∀hl:R+3<H.length,H[R+3]= .cells 1 (us.map lu))∧(∀hl:R+4<H.length,H[R+4]= .cells 1 [[.own (R+3) 0 (bM v).length]])∧(∀hl:R+5<H.length,H[R+5]= .cells 1 [[x]])∧ ∀hl:R+6<H.length,H[R+6]= .cells 1 [[xV R]]):=by
 have hl:=(zA.1 w.walkB).1;exact⟨⟨w.roads,w.goal,w.outB,w.marks,w.usedB,w.pathB,w.walkB⟩,⟨by omega,by omega,by omega,by omega,by omega,by omega,hl⟩,fun _=>(zA.1 w.roads).2,fun _=>(zA.1 w.goal).2,fun _=>(zA.1 w.outB).2,fun _=>(zA.1 w.marks).2,fun _=>(zA.1 w.usedB).2,fun _=>(zA.1 w.pathB).2,fun _=>(zA.1 w.walkB).2⟩
theorem iw.grow (w:iw h H R m v t us p x f y) {lo:Nat} (g:Grow lo H x H')(hlo:h.length≤lo)(q:Ls 1 (R+7) H' x' (p'.map aO))(hn: ∀b off len,x'= .own b off len→H.length≤b):iw h (H'.set (R+5) (.cells 1 [[x']])) R m v t us p' x' f y:=by
 have hx:=w.path.above;have k: ∀b o,b<R+7→b≠R+5→H[b]? =some o→(H'.set (R+5) (.cells 1 [[x']]))[b]? =some o:=fun b o hb hne ho=>by
  rw [zJ (Ne.symm hne)];exact g.keep b o ho fun off len e=>by have:=hx _ _ _ e;omega
 have hl:=g.len;have hw:=w.all.2.1;have hb:=g.base h hlo w.base;refine⟨k _ _ (by omega) (by omega) w.roads,k _ _ (by omega) (by omega) w.goal,k _ _ (by omega) (by omega) w.outB,k _ _ (by omega) (by omega) w.marks,k _ _ (by omega) (by omega) w.usedB,zI (by omega),k _ _ (by omega) (by omega) w.walkB,(q.put (by omega)).oq,?_,fun b off len off' len' e e'=> ?_,cu hb (by have:=w.ple;omega) _,w.ple⟩
 ·exact (w.out.grow g fun b e _ off len e'=>w.apart _ _ _ _ _ e' e).put (by omega)
 ·have h1:=hn _ _ _ e;have h2:=w.out.rs.lt e';omega
theorem iw.mark (w:iw h H R m v t us p x f y)(us':List Bool):iw h (H.set (R+3) (.cells 1 (us'.map lu))) R m v t us' p x f y:=by
 have k: ∀b o,b≠R+3→H[b]? =some o→(H.set (R+3) (.cells 1 (us'.map lu)))[b]? =some o:=fun b o hne ho=>by rw [zJ (Ne.symm hne)];exact ho
 exact⟨k _ _ (by omega) w.roads,k _ _ (by omega) w.goal,k _ _ (by omega) w.outB,zI w.all.2.1.2.2.2.1,k _ _ (by omega) w.usedB,k _ _ (by omega) w.pathB,k _ _ (by omega) w.walkB,w.path.put (by omega),w.out.put (by omega),w.apart,cu w.base (by have:=w.ple;omega) _,w.ple⟩
theorem iw.add (w:iw h H R m v t us p x f y) {lo:Nat} (g:Grow lo H y H')(hlo:h.length≤lo)(q:Ls 1 (R+7) H' y' (f'.map dJ))(hn: ∀b off len,y'= .own b off len→H.length≤b):iw h (H'.set (R+2) (.cells 1 [[y']])) R m v t us p x f' y':=by
 have hy:=w.out.above;have k: ∀b o,b<R+7→b≠R+2→H[b]? =some o→(H'.set (R+2) (.cells 1 [[y']]))[b]? =some o:=fun b o hb hne ho=>by
  rw [zJ (Ne.symm hne)];exact g.keep b o ho fun off len e=>by have:=hy _ _ _ e;omega
 have hl:=g.len;have hw:=w.all.2.1;have hb:=g.base h hlo w.base;refine⟨k _ _ (by omega) (by omega) w.roads,k _ _ (by omega) (by omega) w.goal,zI (by omega),k _ _ (by omega) (by omega) w.marks,k _ _ (by omega) (by omega) w.usedB,k _ _ (by omega) (by omega) w.pathB,k _ _ (by omega) (by omega) w.walkB,?_,q.put (by omega),fun b off len off' len' e e'=> ?_,cu hb (by have:=w.ple;omega) _,w.ple⟩
 ·refine (w.path.keep fun b off len o e ho=> ?_);rw [zJ (by have:=w.path.above _ _ _ e;omega)];exact g.keep b o ho fun off' len' e'=>w.apart _ _ _ _ _ e e'
 ·have h1:=hn _ _ _ e';have h2:=w.path.rs.lt e;omega
theorem iw.cut (w:iw h H R m v t us p x f y)(q:Oq 1 (R+7) H x' (p'.map aO))(hs: ∀b off len,x'= .own b off len→ ∃off' len',x= .own b off' len'):iw h (H.set (R+5) (.cells 1 [[x']])) R m v t us p' x' f y:=by
 have k: ∀b o,b≠R+5→H[b]? =some o→(H.set (R+5) (.cells 1 [[x']]))[b]? =some o:=fun b o hne ho=>by rw [zJ (Ne.symm hne)];exact ho
 refine⟨k _ _ (by omega) w.roads,k _ _ (by omega) w.goal,k _ _ (by omega) w.outB,k _ _ (by omega) w.marks,k _ _ (by omega) w.usedB,zI w.all.2.1.2.2.2.2.2.1,k _ _ (by omega) w.walkB,q.put (by omega),w.out.put (by omega),fun b off len off' len' e e'=> ?_,cu w.base (by have:=w.ple;omega) _,w.ple⟩;obtain⟨o1,l1,e1⟩:=hs b off len e;exact w.apart _ _ _ _ _ e1 e'
end
def marked (v:bv)(us:List Bool)(p:List Bytes):Prop:=us.length=(bM v).length∧ ∀s,aL v.pts s=true→us[bz v s]? =some (decide (s∈p))
theorem marked.push {v:bv} (ok:aY v) {us:List Bool} {p:List Bytes} {s:Bytes} (hm:marked v us p)(hs:aL v.pts s=true):marked v (us.set (bz v s) true) (p++[s]):=by
 refine⟨by rw [List.length_set];exact hm.1,fun z hz=> ?_⟩;by_cases e:z=s
 ·subst e;rw [zI (by rw [hm.1];exact d9 hz)];simp
 ·rw [zJ (fun h=>e (iN ok hs hz h).symm),hm.2 z hz];simp [e]
def MU (gl:aR)(h:ak)(R m:Nat)(v:bv)(t:Bytes)(n:Nat):Prop:=
 ∀(s:Bytes) (p:List Bytes) (us:List Bool) (f:List (List Bytes)) (x y:AV) (H:ak),iw h H R m v t us p x f y→marked v us p→aL v.pts s=true→s∉p→p.length+1+n=16→f.length≤1024→
  af Tryz.prog gl 196 [.int .i64 (bz v s),.ptr (R+5) 0 0,.ptr R 0 0,.ptr (R+4) 0 0,.ptr (R+1) 0 0,.ptr (R+2) 0 0,.ptr (R+6) 0 0] H fun r H'=>r= .tup []∧ ∃x' y',iw h H' R m v t us p x' (jd v t n (p++[s]) f) y'
def QK:Nat→Option (List (Nat×Nat)):=fun i=>if i=0 then some [(0,7)] else if i=3 then some [(0,4)] else none
set_option maxHeartbeats 8000000 in
theorem IY (R m:Nat)(v:bv)(t:Bytes)(ok:aY v)(ht:aL v.pts t=true)(n:Nat)(ih: ∀n',n'+1=n→MU gl h R m v t n'):MU gl h R m v t n:=by
 intro s p us f x y H hW hmk hs hsp hn hfl;have hps:=d9 hs;have hpg:=gW hs;have hpg':=(zA.1 hpg).2;have hnl:(bM v).length≤64:=by rw [mF];exact ok.plen
 have hlk:=ok.llen;have hpf:=hW.path.rs.fix;refine af.bodyL QK Tryz.f196 _ mixed Tryz.func196 rfl rfl (by simp [Tryz.ntmps196]) ?_;simp [-ae,-ai,-ah,-AV.solid,-aS,-aU,QK,hW.all,bf,hps,hpg,hpg',aO,hpf];refine⟨by decide,?_⟩;refine GK (lo:=R+7) (n:=1) (es:=p.map aO) (ys:=[aO s]) (by simpa [aO] using hW.path.more [.cells 1 [aO s]]) (by have:=hW.all.2.1;simp;omega) (by simp [bu,aO]) (by simp;omega) ?_;intro s1 H1 hs1 hg1 hn1;have hs1f:=hs1.rs.fix;have hl1:=hg1.len;have hW1:=(hW.more [.cells 1 [aO s]]).grow (x':=s1) (p':=p++[s]) (by simpa [aO] using hg1) (by have:=hW.ple;omega) (by simpa using hs1) (by simpa [aO] using hn1);have hk1: ∀b o,b<R+7→H[b]? =some o→H1[b]? =some o:=fun b o hb ho=>hg1.keep b o (by rw [zC (zA.1 ho).1];exact ho) fun off len e=>by have:=hW.path.above _ _ _ e;omega
 have hW0:(H1[R+5]? =some (.cells 1 [[x]])∧R+5<H1.length∧ ∀hl:R+5<H1.length,H1[R+5]= .cells 1 [[x]]):=⟨hk1 _ _ (by omega) hW.pathB,(zA.1 (hk1 _ _ (by omega) hW.pathB)).1,fun _=>(zA.1 (hk1 _ _ (by omega) hW.pathB)).2⟩;have hB: ∀b o,b<R+7→H[b]? =some o→H1[b]? =some o∧b<H1.length∧ ∀hl:b<H1.length,H1[b]=o:=fun b o hb ho=>⟨hk1 b o hb ho,(zA.1 (hk1 b o hb ho)).1,fun _=>(zA.1 (hk1 b o hb ho)).2⟩;have hB4:=hB _ _ (by omega) hW.usedB;have hB3:=hB _ _ (by omega) hW.marks;have hB2:=hB _ _ (by omega) hW.outB;have hB1:=hB _ _ (by omega) hW.goal;have hB0:=hB _ _ (by omega) hW.roads;have hul:=hmk.1;have hyf:=hW.out.rs.fix;have hmk1:=hmk.push ok hs;have hW2:=hW1.mark (us.set (bz v s) true);have hsu:us[bz v s]? =some false:=by rw [hmk.2 s hs];simp [hsp]
 have hback:(us.set (bz v s) true).set (bz v s) false=us:=by
  rw [List.set_set];refine List.ext_getElem? fun i=> ?_;by_cases e:bz v s=i
  ·subst e;rw [zI (by rw [hul];exact hps),hsu]
  ·rw [zJ e]
 have hend: ∀(Hn:ak) (x' y':AV) (f':List (List Bytes)),iw h Hn R m v t (us.set (bz v s) true) (p++[s]) x' f' y'→
   iw h ((Hn.set (R+3) (.cells 1 (((us.set (bz v s) true).map lu).set (bz v s) [.bool false]))).set (R+5) (.cells 1 [[aS x' none (some (p.length:Int))]])) R m v t us p (aS x' none (some (p.length:Int))) f' y'∧aU Tryz.prog (Hn.set (R+3) (.cells 1 (((us.set (bz v s) true).map lu).set (bz v s) [.bool false]))) (.slice 9) x' none (some (p.length:Int))∧(aS x' none (some (p.length:Int))).core=aS x' none (some (p.length:Int))∧(aS x' none (some (p.length:Int))).gd=true∧(aS x' none (some (p.length:Int))).solid=true∧ah (aS x' none (some (p.length:Int)))=[aS x' none (some (p.length:Int))]∧
   (alen (Hn.set (R+3) (.cells 1 (((us.set (bz v s) true).map lu).set (bz v s) [.bool false]))) x'=(p.length:Int)+1∧lenOk (Hn.set (R+3) (.cells 1 (((us.set (bz v s) true).map lu).set (bz v s) [.bool false]))) (.slice 9) x'):=by
  intro Hn x' y' f' w;have w1:=w.mark ((us.set (bz v s) true).set (bz v s) false);rw [List.map_set,show lu false=[AV.bool false] from rfl] at w1;have hc:=w1.path.rs.cut Tryz.prog (by omega) none (some (p.length:Int)) (by simp [eD,tQ,eY];omega);have hln:=w1.path.rs.len2;rw [show (((p++[s]).map aO).length:Int)=(p.length:Int)+1 by simp] at hln;obtain⟨b,off,all,rfl,q1,q2,q3,q4⟩:=Oq.isOwn w1.path (by simp);have e1:aS (.own b off ((p++[s]).map aO).length) none (some (p.length:Int))= .own b off p.length:=by simp [aS,eY]
  rw [e1];have w2:=w1.cut (x':= .own b off p.length) (p':=p) ⟨.inr ⟨b,off,all,by simp,q1,q2,by simp at q3 ⊢;omega,?_⟩,wo p⟩ (fun b' off' len' e=>by injection e with e1 e2 e3;exact⟨_,_,by rw [e1]⟩)
  ·rw [hback] at w2;exact⟨w2,hc.2 9 (by simp) (by simp),rfl,rfl,rfl,rfl,hln.1,(hln.2 9).2 trivial⟩
  ·rw [List.length_map];have:=congrArg (List.take p.length) q4;rw [List.take_take,List.length_map,List.length_append,List.length_singleton,Nat.min_eq_left (by omega),List.map_append,List.take_left' (by simp)] at this;exact this
 by_cases hst:s=t
 ·subst hst;have hleaf:=G8 (v:=v) (n:=n) (f:=f) (kC p s);simp [-ae,-ai,-ah,-AV.solid,-aS,-aU,QK,hW.all,hW0,hs1f,hpf,hB4,hB3,hB2,hB1,hps,hul,lu];rw [List.map_set,show lu true=[AV.bool true] from rfl] at hW2;generalize (H1.set (R+5) (.cells 1 [[s1]])).set (R+3) (.cells 1 ((us.map lu).set (bz v s) [.bool true]))=H3 at hW2 ⊢;refine⟨by decide,ay.pure _ (fun _=>Gv (p++[s]) s1 (R+7) (by simp) hW2.path (by simp;omega)) ?_⟩;simp [-ae,-ai,-ah,-AV.solid,-aS,-aU,-List.map_append,QK,hW2.all,hs1f,hyf];refine aG (lo:=R+7) (n:=1) (es:=f.map dJ) (ys:=[dJ (p++[s])]) (by simpa [dJ] using hW2.out.more [.cells 1 [dJ (p++[s])]]) (by have:=hW2.all.2.1;simp;omega) (by simp [bu,dJ]) (by simp;omega) ?_;intro y1 H4 hy1 hg4 hn4;have hy1f:=hy1.rs.fix;have hW4:=(hW2.more [.cells 1 [dJ (p++[s])]]).add (y':=y1) (f':=f++[p++[s]]) (by simpa [dJ] using hg4) (by have:=hW.ple;omega) (by simpa using hy1) (by simpa [dJ] using hn4);have hk4: ∀b o,b<R+7→H3[b]? =some o→H4[b]? =some o:=fun b o hb ho=>hg4.keep b o (by rw [zC (zA.1 ho).1];exact ho) fun off len e=>by have:=hW2.out.above _ _ _ e;omega
  have hC: ∀b o,b<R+7→H3[b]? =some o→H4[b]? =some o∧b<H4.length∧ ∀hl:b<H4.length,H4[b]=o:=fun b o hb ho=>⟨hk4 b o hb ho,(zA.1 (hk4 b o hb ho)).1,fun _=>(zA.1 (hk4 b o hb ho)).2⟩;have hC5:=hC _ _ (by omega) hW2.pathB;have hC4:=hC _ _ (by omega) hW2.usedB;have hC3:=hC _ _ (by omega) hW2.marks;have hC2:=hC _ _ (by omega) hW2.outB;have hE:=hend _ _ _ _ hW4;have ewp:IntKind.i64.wrap (p.length:Int)=(p.length:Int):=aD (by omega) (by omega);have hul':(us.set (bz v s) true).length=(bM v).length:=by simpa using hul
  simp [-ae,-ai,-ah,-AV.solid,-aS,-aU,-List.map_append,-List.map_set,QK,hW2.all,hC5,hC4,hC3,hC2,hs1f,hyf,hy1f,hul,hps,lu,hE.2,ewp];rw [hleaf];exact⟨_,_,hE.1⟩
 ·have hne: ¬(bz v s:Int)=bz v t:=fun e=>hst (iN ok hs ht (by omega));have hrow:=nY hpg;have hrl:=(zA.1 hrow).1;have hrow':=(zA.1 hrow).2;simp [-ae,-ai,-ah,-AV.solid,-aS,-aU,QK,hW.all,hW0,hs1f,hpf,hB4,hB3,hB1,hB0,bf,hps,hul,lu,hne,hrow,hrow',hrl];rw [List.map_set,show lu true=[AV.bool true] from rfl] at hW2;generalize (H1.set (R+5) (.cells 1 [[s1]])).set (R+3) (.cells 1 ((us.map lu).set (bz v s) [.bool true]))=H3 at hW2 ⊢;have hrlen:=rF v s;refine aW.upL QK mixed (rowOf v s).length (fun k fr H=>(fr 0= .int .i64 (bz v s)∧fr 1= .ptr (R+5) 0 0∧fr 2= .ptr R 0 0∧fr 3= .ptr (R+4) 0 0∧fr 4= .ptr (R+1) 0 0∧fr 5= .ptr (R+2) 0 0∧fr 6= .ptr (R+6) 0 0)∧fr 34= .ro ((rowOf v s).map bV)∧fr 35= .int .i64 (rowOf v s).length∧fr 36= .int .i64 k∧
    ∃x y,iw h H R m v t (us.set (bz v s) true) (p++[s]) x (mQ v t n (p++[s]) f k) y) 0 (by omega)
   ⟨by simp,by simp,by simp,by simp,s1,y,by rw [G7];exact hW2⟩ ?_
  clear hW2 hW1 hs1 hg1 hn1 hW0 hB hB0 hB1 hB2 hB3 hB4 hl1 hk1 hs1f hpf hyf;rintro k fr H hk ⟨⟨e0,e1,e2,e3,e4,e5,e6⟩,e34,e35,e36,x',y',hWk⟩;have hxf:=hWk.path.rs.fix;have hyf:=hWk.out.rs.fix;have hyl:=hWk.out.rs.len2;have hxl:=hWk.path.rs.len2;have hfle:=Cj v t n (p++[s]) f (by omega) k;rcases zN k (rowOf v s).length with hlt | hge
  ·obtain⟨r,hr,hr'⟩:=aN hlt;obtain⟨l,l1,rfl,l3,l4,l5,l6⟩:=ET ok hr;have ew:=aB (i:=k) (by omega);have hpd:=d9 l6;have hud:=hmk1.2 l.dst l6;have hud':=(zA.1 hud).2;have hul':bz v l.dst<(us.set (bz v s) true).length:=by rw [hmk1.1];exact hpd
   have hsu2:=vL (v:=v) (t:=t) (n:=n) (path:=p++[s]) (f:=f) (k:=k) (x:=l.dst) (by rw [kC];exact l1);generalize hF:mQ v t n (p++[s]) f k=F at*;have hWb:=hWk.more [.cells 3 [bV (bD v l)]];have hylb:=hWb.out.rs.len2;have hxlb:=hWb.path.rs.len2;simp only [Dn,bD] at hylb hxlb;by_cases hin:l.dst∈p++[s]
   ·simp [-ae,-ai,-ah,-AV.solid,-aS,-aU,-List.map_set,-List.mem_append,QK,hWk.all,bf,e0,e1,e2,e3,e4,e5,e6,e34,e35,e36,hlt,hr,hr',bD,hul',hmk1.1,hpd,hud,hud',lu,hin,ew];exact⟨k+1,by omega,by omega,by omega,x',y',by rw [hsu2,qO (by rintro⟨_,c,_⟩;exact c hin)];simpa [bD] using hWb⟩
   ·by_cases hlim:1024<F.length
    ·have hlim':(1024:Int)<F.length:=by omega
     simp [-ae,-ai,-ah,-AV.solid,-aS,-aU,-List.map_set,-List.mem_append,QK,hWk.all,bf,e0,e1,e2,e3,e4,e5,e6,e34,e35,e36,hlt,hr,hr',bD,hul',hmk1.1,hpd,hud,hud',lu,hin,ew,hyf,hylb,hlim,hlim'];exact⟨k+1,by omega,by omega,by omega,x',y',by rw [hsu2,qO (by rintro⟨c,_⟩;omega)];simpa [bD] using hWb⟩
    ·have hlim': ¬(1024:Int)<F.length:=by omega
     simp [-ae,-ai,-ah,-AV.solid,-aS,-aU,-List.map_set,-List.mem_append,QK,hWk.all,bf,e0,e1,e2,e3,e4,e5,e6,e34,e35,e36,hlt,hr,hr',bD,hul',hmk1.1,hpd,hud,hud',lu,hin,ew,hyf,hylb,hlim,hlim'];have hus:Rs 1 (H++[.cells 3 [[.int .i64 (bz v l.dst),.int .i64 l.min,.int .i64 l.max]]]) (.own (R+3) 0 (bM v).length) ((us.set (bz v s) true).map lu):=by
      have:=Rs.own (n:=1) (h:=H++[.cells 3 [[.int .i64 (bz v l.dst),.int .i64 l.min,.int .i64 l.max]]]) (b:=R+3) (es:=(us.set (bz v s) true).map lu) (by simpa [bD] using hWb.marks) (Sd _);rw [List.length_map,hmk1.1] at this;exact this
     refine ay.any (Ns v m (p++[s]) l.dst t (us.set (bz v s) true) _ ok l6 ht hus hmk1.1 hmk1.2) ?_;rintro r h2 ⟨⟨nn,rfl,hnn⟩,rfl⟩;have hcb:=K5 ok hnn;have hrange: -1≤nn∧nn≤63:=by rcases hnn with⟨e,_⟩ | ⟨c1,c2,_⟩ <;> omega
     have hpl2:((p++[s]).length:Int)=(p.length:Int)+1:=by simp
     have ewa:IntKind.i64.wrap ((p.length:Int)+1+1)=(p.length:Int)+1+1:=aD (by omega) (by omega);have ewb:IntKind.i64.wrap ((p.length:Int)+1+1+nn)=(p.length:Int)+1+1+nn:=aD (by omega) (by omega);rw [hpl2] at hcb;have hxlb1: ∀e,lenOk (H++[.cells 3 [[.int .i64 (bz v l.dst),.int .i64 l.min,.int .i64 l.max]]]) (.slice e) x':=fun e=>(hxlb.2 e).2 trivial;have hxlb2:alen (H++[.cells 3 [[.int .i64 (bz v l.dst),.int .i64 l.min,.int .i64 l.max]]]) x'=(p.length:Int)+1:=by rw [hxlb.1];simp
     simp [-ae,-ai,-ah,-AV.solid,-aS,-aU,-List.map_set,-List.mem_append,QK,hWk.all,bf,e0,e1,e2,e3,e4,e5,e6,e34,e35,e36,hlt,hr,hr',bD,hul',hmk1.1,hpd,hud,hud',lu,hin,ew,hyf,hxf,hxlb1,hxlb2,ewa,ewb,xV];refine⟨fun c1 c2=> ?_,fun cc=>⟨k+1,by omega,by omega,by omega,x',y',by rw [hsu2,qO (by rintro⟨_,_,c⟩;rw [hcb] at c;have:=of_decide_eq_true c;have:=cc this.1;omega)];simpa [bD] using hWb⟩⟩;have hc3:jK v (p++[s]++[l.dst]) t=true:=by rw [hcb];exact decide_eq_true ⟨c1,by omega⟩
     obtain⟨n',rfl⟩: ∃n',n=n'+1:=⟨n - 1,by omega⟩;rw [KS ⟨by omega,hin,hc3⟩] at hsu2;have hcl:=ih n' rfl l.dst (p++[s]) (us.set (bz v s) true) F x' y' _ hWb hmk1 l6 hin (by simp;omega) (by omega);refine ay.any (by simpa [bD] using hcl) ?_;rintro r h3 ⟨rfl,x2,y2,hW3⟩;simp [-ae,-ai,-ah,-AV.solid,-aS,-aU,QK,e0,e1,e2,e3,e4,e5,e6,e34,e35,e36,ew];exact⟨k+1,by omega,by omega,by omega,x2,y2,by rw [hsu2,zK];exact hW3⟩
  ·obtain rfl:k=(rowOf v s).length:=by omega
   have hall:=KR (v:=v) (t:=t) (n:=n) (path:=p++[s]) (f:=f) (by rw [kC];exact hst);rw [kC,←wT] at hall;rw [hall] at hWk hyl;have hE:=hend _ _ _ _ hWk;have ewp:IntKind.i64.wrap (p.length:Int)=(p.length:Int):=aD (by omega) (by omega);simp [-ae,-ai,-ah,-AV.solid,-aS,-aU,-List.map_append,-List.map_set,QK,hWk.all,e0,e1,e2,e3,e4,e5,e6,e34,e35,e36,hxf,hmk1.1,hul,hps,lu,hE.2,ewp];exact⟨_,_,hE.1⟩
theorem MO (R m:Nat)(v:bv)(t:Bytes)(ok:aY v)(ht:aL v.pts t=true): ∀n,MU gl h R m v t n
 | 0=>IY R m v t ok ht 0 fun n' e=>by omega
 | n+1=>IY R m v t ok ht (n+1) fun n' e=>by
  obtain rfl:n'=n:=by omega
  exact MO R m v t ok ht n'
def sF (v:bv)(a b:Bytes):AV:= .tup [.ro ((eH v a b).1.map dJ),.int .i64 (eH v a b).2]
theorem sG (l:List (List Bytes)): ∀e∈l.map dJ,∀y∈e,y.Data:=by
 intro e he y hy;obtain⟨p,_,rfl⟩:=List.mem_map.1 he;simp [dJ] at hy;subst hy;exact .ro _ (fZ _)
set_option maxHeartbeats 8000000 in
theorem KY (n:bv)(a b:Bytes)(hp:n.pts.length≤1000)(hl:n.lks.length≤1000):af Tryz.prog gl 185 [.agg (bE n),.str a,.str b] h fun x h'=>x=sF (cO n) a b∧h'=h:=by
 refine af.fresh' (af.body Tryz.f185 _ mixed Tryz.func185 rfl rfl (by simp [Tryz.ntmps185]) ?_);have ok:=oh n;simp;refine ay.any (qh n hp hl) ?_;rintro x h1 ⟨m,g,rfl,hh1,hmge,hm⟩;generalize cO n=v at*;have hM:zn h1 m v:=⟨hm⟩;have hB: ∃g1,h1=h++g1:=⟨_,by rw [hh1,zK]⟩;clear hh1 hmge;have hbl:=aV hB;have hnl:(bM v).length≤64:=by rw [mF];exact ok.plen
 simp [bf];refine ay.pure _ (fun _=>DU v m a b (hM.more _)) ?_;by_cases hq:aL v.pts a=true∧aL v.pts b=true
 ·obtain⟨qa,qb⟩:=hq;have ea:numOf v a=(bz v a:Int):=by rw [numOf,if_pos qa]
  have eb:numOf v b=(bz v b:Int):=by rw [numOf,if_pos qb]
  rw [ea,eb,qa,qb];obtain⟨R,hR⟩: ∃R,R=h1.length:=⟨_,rfl⟩;simp (config := { maxSteps := 2000000 }) [-ae,-ai];refine⟨by omega,?_⟩;have hRl:=congrArg (fun k=>k) hR;have hqa:=d9 qa;have hqb:=d9 qb;obtain⟨H0,hH0⟩: ∃H0,H0=h1++[.cells 3 [bf v m],.cells 1 [[.int .i64 (bz v b)]],.cells 1 [[.nil]],.cells 1 ((List.replicate (bM v).length false).map lu),.cells 1 [[.own (h1.length+3) 0 (bM v).length]],.cells 1 [[.nil]],.cells 1 [[xV h1.length]]]:=⟨_,rfl⟩;have hW0:iw h H0 h1.length m v b (List.replicate (bM v).length false) [] .nil [] .nil:=by
   subst hH0;exact⟨by simp,by simp,by simp,by simp,by simp,by simp,by simp,⟨.inl ⟨rfl,rfl⟩,fun e he=>by simp at he⟩,.nil,fun b off len off' len' e=>by simp at e,aF hB _,by omega⟩
  have hmk0:marked v (List.replicate (bM v).length false) []:=by
   refine⟨by simp,fun s hs=> ?_⟩;rw [List.getElem?_replicate,if_pos (d9 hs)];simp
  have hcl:=MO (gl:=gl) (h:=h) h1.length m v b ok qb 15 a [] (List.replicate (bM v).length false) [] .nil .nil H0 hW0 hmk0 qa (by simp) (by simp) (by simp);have hpe:eH v a b=if 1024<(jd v b 15 [a] []).length then ([],3) else (jd v b 15 [a] [],0):=by unfold eH;rw [if_pos ⟨qa,qb⟩]
  rw [sF,hpe];have hH1:h1++[.cells 3 [bf v m],.cells 1 [[.int .i64 (bz v b)]],.cells 1 [[.nil]],.cells 1 (List.replicate (bM v).length [.bool false]),.cells 1 [[.own (h1.length+3) 0 (bM v).length]],.cells 1 [[.nil]],.cells 1 [[xV h1.length]]]=H0:=by
   rw [hH0,List.map_replicate];rfl
  simp only [bf,xV] at hH1;rw [hH1];refine ay.any hcl ?_;rintro r h3 ⟨rfl,x',y',hW3⟩;have hyf:=hW3.out.rs.fix;have hyl:=hW3.out.rs.len2;by_cases hlim:1024<(jd v b 15 [a] []).length
  ·have hlim':(1024:Int)<(jd v b 15 [a] []).length:=by omega
   rw [if_pos hlim];simp [-ae,-ai,-ah,-AV.solid,-aS,-aU,hW3.all,hyf,hyl,hlim,hlim'];exact⟨hW3.base,.tup' (.cons .nil (.cons (.data _ (by simp)) .nil))⟩
  ·have hlim': ¬(1024:Int)<(jd v b 15 [a] []).length:=by omega
   rw [if_neg hlim];simp [-ae,-ai,-ah,-AV.solid,-aS,-aU,hW3.all,hyf,hyl,hlim,hlim'];exact⟨hW3.base,.tup' (.cons (hW3.out.frz (by omega) (sG _)) (.cons (.data _ (by simp)) .nil))⟩
 ·have hno:eH v a b=([],16):=by unfold eH;rw [if_neg hq]
  have hq':(aL v.pts a && aL v.pts b)=false:=by
   rw [Bool.and_eq_false_iff];by_cases c:aL v.pts a=true
   ·right
    by_cases c2:aL v.pts b=true
    ·exact absurd ⟨c,c2⟩ hq
    ·simpa using c2
   ·left;simpa using c
  rw [hq'];simp (config := { maxSteps := 5000000 }) [bf];rw [sF,hno];exact⟨aF hB _,.tup' (.cons .nil (.cons (.data _ (by simp)) .nil))⟩
end Go.Proofs.YtkpioblbeiaefaaGreat
namespace Go.Proofs.YtkpioblbeiaefaaGreat
open Go Go.Abs Go.Toll
variable {gl : aR} {h : ak}
theorem Lm {p:List Bytes} {m:Nat} (hm:p.length=m+1):p[m]? =some (lastT p):=by
 have hp:p≠[]:=by intro e;rw [e] at hm;cases hm
 rw [lastT,List.getLast?_eq_getElem?,hm,Nat.add_sub_cancel]
 cases e:p[m]? with
 | none=>rw [List.getElem?_eq_none_iff] at e;omega
 | some a=>rfl
structure tX (h H:ak)(v:bv)(x:AV)(S:List Bytes)(y:AV)(M:List Bytes)(z:AV)(F:List Bytes):Prop where
 net:H[h.length]? =some (.cells 2 [bE v])
 seen:Ls 1 (h.length+1) H x (S.map aO)
 more':Ls 1 (h.length+1) H y (M.map aO)
 front:Rs 1 H z (F.map aO)
 axy: ∀b off len off' len',x= .own b off len→y≠ .own b off' len'
 axz: ∀b off len off' len',x= .own b off len→z≠ .own b off' len'
 ayz: ∀b off len off' len',y= .own b off len→z≠ .own b off' len'
 base: ∃g,H=h++g
section
variable {H H' : ak} {v : bv} {x y z x' y' : AV} {S S' M M' F : List Bytes}
theorem tX.all (c:tX h H v x S y M z F):H[h.length]? =some (.cells 2 [bE v])∧h.length<H.length∧ ∀hl:h.length<H.length,H[h.length]= .cells 2 [bE v]:=
 ⟨c.net,(zA.1 c.net).1,fun _=>(zA.1 c.net).2⟩
theorem tX.app (c:tX h H v x S y M z F)(g:ak):tX h (H++g) v x S y M z F:=
 ⟨by rw [zC c.all.2.1];exact c.net,c.seen.more g,c.more'.more g,c.front.append g,c.axy,c.axz,c.ayz,aF c.base g⟩
theorem tX.growS (c:tX h H v x S y M z F) {lo:Nat} (g:Grow lo H x H')(hlo:h.length≤lo)(q:Ls 1 (h.length+1) H' x' (S'.map aO))(hn: ∀b off len,x'= .own b off len→H.length≤b):tX h H' v x' S' y M z F:=by
 refine⟨g.keep _ _ c.net fun off len e=>by have:=c.seen.above _ _ _ e;omega,q,c.more'.grow g fun b e _ off len e'=>c.axy _ _ _ _ _ e' e,c.front.keep g fun b off len e off' len' e'=>c.axz _ _ _ _ _ e' e,fun b off len off' len' e e'=> ?_,fun b off len off' len' e e'=> ?_,c.ayz,g.base h hlo c.base⟩
 ·have h1:=hn _ _ _ e;have h2:=c.more'.rs.lt e';omega
 ·have h1:=hn _ _ _ e;have h2:=c.front.lt e';omega
theorem tX.growM (c:tX h H v x S y M z F) {lo:Nat} (g:Grow lo H y H')(hlo:h.length≤lo)(q:Ls 1 (h.length+1) H' y' (M'.map aO))(hn: ∀b off len,y'= .own b off len→H.length≤b):tX h H' v x S y' M' z F:=by
 refine⟨g.keep _ _ c.net fun off len e=>by have:=c.more'.above _ _ _ e;omega,c.seen.grow g fun b e _ off len e'=>c.axy _ _ _ _ _ e e',q,c.front.keep g fun b off len e off' len' e'=>c.ayz _ _ _ _ _ e' e,fun b off len off' len' e e'=> ?_,c.axz,fun b off len off' len' e e'=> ?_,g.base h hlo c.base⟩
 ·have h1:=hn _ _ _ e';have h2:=c.seen.rs.lt e;omega
 ·have h1:=hn _ _ _ e;have h2:=c.front.lt e';omega
theorem tX.next (c:tX h H v x S y M z F):tX h H v x S .nil [] y M:=
 ⟨c.net,c.seen,.nil,c.more'.rs,fun b off len off' len' e e'=>(by cases e'),c.axy,fun b off len off' len' e=>(by cases e),c.base⟩
end
set_option maxHeartbeats 8000000 in
theorem BU (v:bv)(p:List Bytes)(t:Bytes)(x:AV)(ok:aY v)(hp:p≠[])(hpl:p.length≤17)(hx:Rs 1 h x (p.map aO)):
  af Tryz.prog gl 204 [.agg (bE v),x,.str t] h fun r h'=>r= .bool (jK v p t)∧h'=h:=by
 refine af.data (.bool _) (af.body Tryz.f204 _ mixed Tryz.func204 rfl rfl (by simp [Tryz.ntmps204]) ?_);have hxf:=hx.fix;obtain⟨m,hm⟩: ∃m,p.length=m+1:=⟨p.length - 1,by have:=List.length_pos_iff.2 hp;omega⟩;have hlast:=Lm hm;have hxh:=hx.append [.cells 2 [bE v]];simp [-ae,-ai,-ah,-AV.solid,hxf];refine aG (lo:=h.length+1) (n:=1) (es:=[]) (ys:=p.map aO) Ls.nil (by simp) (bL (by simpa using hxh) (by simp) (by simp) (by simp)) (by simp;omega) ?_;intro s1 H1 hs1 hg1 hn1;rw [List.nil_append] at hs1;have hs1f:=hs1.rs.fix;have hx1:=hxh.keep (by simpa using hg1) (fun b off len e off' len' e'=>by cases e');have hN1:H1[h.length]? =some (.cells 2 [bE v]):=hg1.keep _ _ (by simp) (by simp);have hB1:=hg1.base h (by omega) ⟨_,rfl⟩;have hl1:=hg1.len;have hlen:=hx1.len2;have hix:=Rs.ix Tryz.prog hx1 (m:Int) (by omega) (y:=[.str (lastT p)]) (by simp [hlast,aO]);have ewl:IntKind.i64.wrap ((p.length:Int) - 1)=(m:Int):=by rw [aD (by omega) (by omega)];omega
 have hlen2:=(hx1.append [.cells 1 [[.str (lastT p)]]]).len2;rw [List.length_map] at hlen hlen2;simp [-ae,-ai,-ah,-AV.solid,hxf,hs1f,hlen,hlen2,hix,ewl];refine aW.up mixed 17 (fun k fr H=>fr 2= .str t∧fr 3= .ptr h.length 0 0∧fr 9= .int .i64 k∧ ∃x S z F,fr 7=x∧fr 8=z∧tX h H v x S .nil [] z F∧Cp v p S []∧F.length≤64∧jK v p t=Dj v t (17 - k) S F) p.length (by omega)
  ⟨by simp,by simp,by simp,s1,p,.own H1.length 0 1,[lastT p],by simp,by simp,?_,Cp.zero v p,by simp,rfl⟩ ?_
 ·refine⟨by rw [zC (aK hN1)];exact hN1,hs1.more _,.nil,Rs.own (n:=1) (es:=[aO (lastT p)]) (by simp [aO]) (by simp [aO]),fun b off len off' len' e e'=>(by cases e'),fun b off len off' len' e e'=> ?_,fun b off len off' len' e=>(by cases e),aF hB1 _⟩;have:=hs1.rs.lt e;injection e' with e1;omega
 clear hs1 hs1f hx1 hN1 hB1 hl1 hlen hix hg1 hn1;rintro k fr H hk ⟨e2,e3,e9,x1,S,z,F,e7,e8,hC,hCp,hFl,hcb⟩;have hx1f:=hC.seen.rs.fix;have hzf:=hC.front.fix;rcases zN k 17 with hlt | hge
 ·have hk16:(k:Int)≤16:=by omega
  obtain⟨n,hn⟩: ∃n,17 - k=n+1:=⟨16 - k,by omega⟩;have hn':17 - (k+1)=n:=by omega
  have ewk:=aB (i:=k) (by omega);rw [hn] at hcb;simp [-ae,-ai,-ah,-AV.solid,e2,e3,e7,e8,e9,hk16,hx1f,hzf];refine ay.pure _ (fun _=>qm F t z hC.front (by omega)) ?_;by_cases hit:t∈F
  ·rw [Sb hit] at hcb;simp [-ae,-ai,-ah,-AV.solid,e2,e3,e7,e8,e9,hk16,hx1f,hzf,hit,hcb];exact hC.base
  ·rw [Qq hit] at hcb;simp [-ae,-ai,-ah,-AV.solid,e2,e3,e7,e8,e9,hk16,hx1f,hzf,hit];refine aW.up mixed F.length (fun i fr H=>fr 2= .str t∧fr 3= .ptr h.length 0 0∧fr 9= .int .i64 k∧fr 8=z∧fr 11= .int .i64 i∧ ∃x S' y M',fr 7=x∧fr 10=y∧tX h H v x S' y M' z F∧Cp v p S' M'∧Gc v S F i=(S',M')) 0 (by omega)
    ⟨by simp [e2],by simp [e3],by simp [e9],by simp [e8],by simp,x1,S,.nil,[],by simp [e7],by simp,hC,hCp,rfl⟩ ?_
   clear e2 e3 e7 e8 e9 hC hCp hx1f hzf;rintro i fr H hi ⟨e2,e3,e9,e8,e11,x2,S2,y2,M2,e7,e10,hC,hCp,hlev⟩;have hx2f:=hC.seen.rs.fix;have hy2f:=hC.more'.rs.fix;have hzf:=hC.front.fix;have hzl:=hC.front.len2;rw [List.length_map] at hzl;rcases zN i F.length with hlti | hgei
   ·obtain⟨d,hd,hd'⟩:=aN hlti;have ewi:=aB (i:=i) (by omega);have hzix:=Rs.ix Tryz.prog hC.front (i:Int) (by omega) (y:=[.str d]) (by simp [hd,aO]);simp [-ae,-ai,-ah,-AV.solid,e2,e3,e7,e8,e9,e10,e11,hlti,hx2f,hy2f,hzf,hzl,hzix,hC.all];refine⟨by decide,?_⟩;refine ay.pure _ (fun _=>EH v d ok) ?_;have hXl:(df v d).length≤128:=by
     have:=Ab v d;have:=ok.llen;rw [df,List.length_map];omega
    simp [-ae,-ai,-ah,-AV.solid,e2,e3,e7,e8,e9,e10,e11,hlti,hx2f,hy2f,hzf,hzl];refine aW.up mixed (df v d).length (fun j fr H=>(fr 2= .str t∧fr 3= .ptr h.length 0 0∧fr 9= .int .i64 k∧fr 8=z∧fr 11= .int .i64 i)∧fr 12= .ro ((df v d).map aO)∧fr 13= .int .i64 j∧ ∃x S' y M',fr 7=x∧fr 10=y∧tX h H v x S' y M' z F∧Cp v p S' M'∧NK v S F i d j=(S',M')) 0 (by omega)
     ⟨by simp [e2,e3,e9,e8,e11],by simp,by simp,x2,S2,y2,M2,by simp [e7],by simp [e10],hC,hCp,by rw [QG];exact hlev⟩ ?_
    clear e2 e3 e7 e8 e9 e10 e11 hC hCp hx2f hy2f hzf hzl hzix hlev;rintro j fr H hj ⟨⟨e2,e3,e9,e8,e11⟩,e12,e13,x3,S3,y3,M3,e7,e10,hC,hCp,hlev⟩;have hx3f:=hC.seen.rs.fix;have hy3f:=hC.more'.rs.fix;have hCl:=hCp.len ok;rcases zN j (df v d).length with hltj | hgej
    ·obtain⟨w,hw,hw'⟩:=aN hltj;have ewj:=aB (i:=j) (by omega);have hsuc:=QF (S:=S) (F:=F) (i:=i) hw;rw [hlev] at hsuc;have hwp:=Xg ok (zF hw);simp [-ae,-ai,-ah,-AV.solid,e2,e3,e7,e8,e9,e10,e11,e12,e13,hltj,hw,hw',hx3f,hy3f,aO];refine ay.pure _ (fun _=>qm S3 w x3 hC.seen.rs (by omega)) ?_;by_cases hin:w∈S3
     ·rw [Qp hin] at hsuc;simp [-ae,-ai,-ah,-AV.solid,e2,e3,e7,e8,e9,e10,e11,e12,e13,hltj,hw,hw',hx3f,hy3f,aO,hin,ewj];exact⟨j+1,by omega,by omega,by omega,S3,M3,hC,hCp,hsuc⟩
     ·rw [Nh hin] at hsuc;simp [-ae,-ai,-ah,-AV.solid,e2,e3,e7,e8,e9,e10,e11,e12,e13,hltj,hw,hw',hx3f,hy3f,aO,hin,ewj];have hC1:=hC.app [.cells 1 [aO w]];refine aG (lo:=h.length+1) (n:=1) (es:=S3.map aO) (ys:=[aO w]) (by simpa [aO] using hC1.seen) (by have:=hC.all.2.1;simp;omega) (by simp [bu,aO]) (by simp;omega) ?_;intro x4 H4 hx4 hg4 hn4;have hx4f:=hx4.rs.fix;have hl4:=hg4.len;have hC4:=hC1.growS (x':=x4) (S':=S3++[w]) (by simpa [aO] using hg4) (by omega) (by simpa using hx4) (by simpa [aO] using hn4);simp [-ae,-ai,-ah,-AV.solid,e2,e3,e7,e8,e9,e10,e11,e12,e13,hltj,hw,hw',hx4f,hy3f,aO,hin,ewj];have hC5:=hC4.app [.cells 1 [aO w]];refine aG (lo:=h.length+1) (n:=1) (es:=M3.map aO) (ys:=[aO w]) (by simpa [aO] using hC5.more') (by have:=hC4.all.2.1;simp;omega) (by simp [bu,aO]) (by simp;omega) ?_;intro y6 H6 hy6 hg6 hn6;have hy6f:=hy6.rs.fix;have hC6:=hC5.growM (y':=y6) (M':=M3++[w]) (by simpa [aO] using hg6) (by omega) (by simpa using hy6) (by simpa [aO] using hn6);simp [-ae,-ai,-ah,-AV.solid,e2,e3,e7,e8,e9,e10,e11,e12,e13,hltj,hw,hw',hx4f,hy6f,aO,hin,ewj];exact⟨j+1,by omega,by omega,by omega,S3++[w],M3++[w],hC6,hCp.add hin hwp,hsuc⟩
    ·obtain rfl:j=(df v d).length:=by omega
     rw [Sv hd] at hlev;simp [-ae,-ai,-ah,-AV.solid,e2,e3,e7,e8,e9,e10,e11,e12,e13,ewi];exact⟨i+1,by omega,by omega,by omega,S3,M3,hC,hCp,hlev⟩
   ·obtain rfl:i=F.length:=by omega
    have hCl:=hCp.len ok;rw [hlev] at hcb;simp [-ae,-ai,-ah,-AV.solid,e2,e3,e7,e8,e9,e10,e11,hx2f,hy2f,hzf,hzl,ewk];exact⟨k+1,by omega,by omega,by omega,S2,M2,hC.next,hCp.new,by omega,by rw [hn'];exact hcb⟩
 ·obtain rfl:k=17:=by omega
  have hcb:jK v p t=false:=hcb;simp [-ae,-ai,-ah,-AV.solid,e2,e3,e7,e8,e9,hcb];exact hC.base
structure zk (h H:ak)(lo:Nat)(v:bv)(x0 x:AV)(f:List (List Bytes)):Prop where
 net:H[h.length]? =some (.cells 2 [bE v])
 out:Ls 1 lo H x (f.map dJ)
 keep: ∀(b:Nat) (o:cZ),h[b]? =some o→(∀off len,x0≠ .own b off len)→H[b]? =some o
 new: ∀b off len,x= .own b off len→(∃off' len',x0= .own b off' len')∨h.length<b
section
variable {H H' : ak} {lo : Nat} {v : bv} {x0 x r : AV} {f f' : List (List Bytes)}
theorem zk.all (c:zk h H lo v x0 x f):H[h.length]? =some (.cells 2 [bE v])∧h.length<H.length∧ ∀hl:h.length<H.length,H[h.length]= .cells 2 [bE v]:=
 ⟨c.net,(zA.1 c.net).1,fun _=>(zA.1 c.net).2⟩
theorem zk.step (c:zk h H lo v x0 x f)(hk: ∀(b:Nat) (o:cZ),H[b]? =some o→H'[b]? =some o):zk h H' lo v x0 x f:=
 ⟨hk _ _ c.net,c.out.keep' fun b len o _ ho=>hk b o ho,fun b o ho hn=>hk b o (c.keep b o ho hn),c.new⟩
theorem zk.call (c:zk h H lo v x0 x f)(hl0: ∀b off len,x0= .own b off len→b<h.length)(ho:Ls 1 lo H' r (f'.map dJ))(hk: ∀(b:Nat) (o:cZ),H[b]? =some o→(∀off len,x≠ .own b off len)→H'[b]? =some o)
  (hn: ∀b off len,r= .own b off len→(∃off' len',x= .own b off' len')∨H.length≤b):zk h H' lo v x0 r f':=by
 refine⟨hk _ _ c.net fun off len e=> ?_,ho,fun b o hb hne=>hk b o (c.keep b o hb hne) fun off len e=> ?_,fun b off len e=> ?_⟩
 ·rcases c.new _ _ _ e with⟨_,_,e1⟩ | h1
  ·have:=hl0 _ _ _ e1;omega
  ·omega
 ·rcases c.new _ _ _ e with⟨_,_,e1⟩ | h1
  ·exact hne _ _ e1
  ·have:=aK hb;omega
 ·rcases hn _ _ _ e with⟨_,_,e1⟩ | h1
  ·exact c.new _ _ _ e1
  ·have:=c.all.2.1;exact .inr (by omega)
end
def MV (gl:aR)(v:bv)(t:Bytes)(n:Nat):Prop:=
 ∀(h:ak) (lo:Nat) (p:List Bytes) (f:List (List Bytes)) (x:AV),Ls 1 lo h x (f.map dJ)→lo≤h.length→p≠[]→p.length+n=16→f.length≤1024→
  af Tryz.prog gl 191 [.agg (bE v),.ro (p.map aO),.str t,x] h fun r H'=>Ls 1 lo H' r ((jd v t n p f).map dJ)∧(∀b o,h[b]? =some o→(∀off len,x≠ .own b off len)→H'[b]? =some o)∧(∀b off len,r= .own b off len→(∃off' len',x= .own b off' len')∨h.length≤b)
set_option maxHeartbeats 8000000 in
theorem KT (v:bv)(t:Bytes)(ok:aY v)(n:Nat)(ih: ∀n',n'+1=n→MV gl v t n'):MV gl v t n:=by
 intro h lo p f x hx hlo hp hpn hfl;have hxf:=hx.rs.fix;obtain⟨m,hm⟩: ∃m,p.length=m+1:=⟨p.length - 1,by have:=List.length_pos_iff.2 hp;omega⟩;have hlast:=Lm hm;have hlast':=(zA.1 hlast).2;have hml:m<p.length:=by omega
 have ewl:IntKind.i64.wrap ((p.length:Int) - 1)=(m:Int):=by rw [aD (by omega) (by omega)];omega
 refine af.body Tryz.f191 _ mixed Tryz.func191 rfl rfl (by simp [Tryz.ntmps191]) ?_;by_cases hst:lastT p=t
 ·have hleaf:=G8 (v:=v) (n:=n) (f:=f) hst;simp [-ae,-ai,-ah,-AV.solid,hxf,ewl,hml,hlast,hlast',aO,hst];refine aG (lo:=lo) (n:=1) (es:=f.map dJ) (ys:=[dJ p]) (by simpa [dJ,aO] using hx.more [.cells 2 [bE v],.cells 1 [dJ p]]) (by simp;omega) (by simp [bu,dJ]) (by simp;omega) ?_;intro s1 H1 hs1 hg1 hn1;have hs1f:=hs1.rs.fix;simp [-ae,-ai,-ah,-AV.solid,hs1f];rw [hleaf];refine⟨by simpa using hs1,fun b o hb hne=>hg1.keep b o (by rw [zC (aK hb)];exact hb) hne,fun b off len e=> ?_⟩;have:=hn1 _ _ _ e;simp at this;exact .inr (by omega)
 ·have hall:=KR (v:=v) (t:=t) (n:=n) (path:=p) (f:=f) hst;simp [-ae,-ai,-ah,-AV.solid,hxf,ewl,hml,hlast,hlast',aO,hst];refine⟨by decide,?_⟩;refine ay.pure _ (fun _=>EH v (lastT p) ok) ?_;have hXl:(df v (lastT p)).length≤128:=by
   have:=Ab v (lastT p);have:=ok.llen;rw [df,List.length_map];omega
  have hl0: ∀b off len,x= .own b off len→b<h.length:=fun b off len e=>hx.rs.lt e;have hH0:zk h (h++[.cells 2 [bE v]]) lo v x x f:=⟨by simp,hx.more _,fun b o hb _=>by rw [zC (aK hb)];exact hb,fun b off len e=> .inl ⟨_,_,e⟩⟩;simp [-ae,-ai,-ah,-AV.solid,hxf];refine aW.up mixed (df v (lastT p)).length (fun k fr H=>(fr 1= .ro (p.map aO)∧fr 2= .str t∧fr 4= .ptr h.length 0 0)∧fr 9= .ro ((df v (lastT p)).map aO)∧fr 10= .int .i64 k∧ ∃y,fr 3=y∧zk h H lo v x y (mQ v t n p f k)) 0 (by omega)
   ⟨by simp [aO],by simp,by simp,x,by simp,by rw [G7];simpa using hH0⟩ ?_
  clear hH0;rintro k fr H hk ⟨⟨e1,e2,e4⟩,e9,e10,y,e3,hE⟩;have hyf:=hE.out.rs.fix;have hyl:=hE.out.rs.len2;rw [List.length_map] at hyl;have hfle:=Cj v t n p f (by omega) k;rcases zN k (df v (lastT p)).length with hlt | hge
  ·obtain⟨w,hw,hw'⟩:=aN hlt;have ew:=aB (i:=k) (by omega);by_cases hlim:(mQ v t n p f k).length≤1024
   ·have hlim':((mQ v t n p f k).length:Int)≤1024:=by omega
    have hsuc:=vL (t:=t) (n:=n) (f:=f) hw;simp [-ae,-ai,-ah,-AV.solid,e1,e2,e3,e4,e9,e10,hlt,hw,hw',hyf,hyl,hlim,hlim',aO];refine ay.pure _ (fun _=>qm p w _ (.ro (wo _)) (by omega)) ?_;by_cases hin:w∈p
    ·simp [-ae,-ai,-ah,-AV.solid,e1,e2,e3,e4,e9,e10,hlt,hw,hw',hyf,hyl,hlim,hlim',aO,hin,ew];exact⟨k+1,by omega,by omega,by omega,by rw [hsuc,qO (by rintro⟨_,c,_⟩;exact c hin)];exact hE⟩
    ·simp [-ae,-ai,-ah,-AV.solid,e1,e2,e3,e4,e9,e10,hlt,hw,hw',hyf,hyl,hlim,hlim',aO,hin,ew];obtain⟨hEn,hEl,hEn'⟩:=hE.all;refine aG (lo:=H.length) (n:=1) (es:=[]) (ys:=p.map aO) Ls.nil (by simp) (bL (.ro (wo p)) (by simp) (by simp) (by simp)) (by simp;omega) ?_;intro s1 H1 hs1 hg1 hn1;rw [List.nil_append] at hs1;have hs1f:=hs1.rs.fix;have hE1:=hE.step (H':=H1) (fun b o hb=>hg1.keep b o hb (by simp));have hy1f:=hE1.out.rs.fix;have hy1l:=hE1.out.rs.len2;have hl1:=hg1.len;simp [-ae,-ai,-ah,-AV.solid,e1,e2,e3,e4,e9,e10,hlt,hw,hw',hyf,hs1f,aO,ew];refine aG (lo:=H.length) (n:=1) (es:=p.map aO) (ys:=[aO w]) (by simpa [aO] using hs1.more [.cells 1 [aO w]]) (by simp;omega) (by simp [bu,aO]) (by simp;omega) ?_;intro s2 H2 hs2 hg2 hn2;have hs2f:=hs2.rs.fix;have hE2:=(hE1.step (H':=H1++[.cells 1 [aO w]]) (fun b o hb=>by rw [zC (aK hb)];exact hb));have hE3:zk h H2 lo v x y (mQ v t n p f k):=by
      refine⟨hg2.keep _ _ (by simpa [aO] using hE2.net) fun off len e=> ?_,hE1.out.keep' (fun b len o e hb=>hg2.keep b o (by rw [zC (aK hb)];exact hb) fun off' len' e'=> ?_),fun b o hb hne=>hg2.keep b o (by rw [zC (aK (hE1.keep b o hb hne))];exact hE1.keep b o hb hne) fun off len e=> ?_,hE.new⟩
      ·have:=hs1.above _ _ _ e;omega
      ·have h1:=hs1.above _ _ _ e';have h2:=hE.out.rs.lt e;omega
      ·have h1:=hs1.above _ _ _ e;have h2:=aK hb;omega
     obtain⟨hEn3,hEl3,hEn3'⟩:=hE3.all;have hy3f:=hE3.out.rs.fix;simp [-ae,-ai,-ah,-AV.solid,e1,e2,e3,e4,e9,e10,hlt,hw,hw',hy3f,hs2f,aO,ew,hEn3,hEl3,hEn3'];rw [show p.map aO++[aO w]=(p++[w]).map aO by simp] at hs2;refine ay.pure _ (fun _=>BU v (p++[w]) t s2 ok (by simp) (by simp;omega) hs2.rs) ?_;by_cases hcb:jK v (p++[w]) t=true
     ·obtain⟨n',rfl⟩: ∃n',n=n'+1:=by
       cases n with
       | succ n'=>exact⟨n',rfl⟩
       | zero=>
        obtain⟨j,_,hj⟩:=(Dh ok t (by simp)).1 hcb;rw [List.length_append,List.length_singleton] at hj;omega
      rw [KS ⟨hlim,hin,hcb⟩] at hsuc;simp [-ae,-ai,-ah,-AV.solid,e1,e2,e3,e4,e9,e10,hlt,hw,hw',hy3f,hs2f,aO,ew,hEn3,hEl3,hEn3',hcb];obtain⟨ks,hks,hfr⟩:=hs2.lend;have hkb: ∀b∈ks,H.length≤b:=fun b hb=>(hks b hb).1;have hout:Ls 1 lo (killL H2 ks) y ((mQ v t (n'+1) p f k).map dJ):=hE3.out.keep' fun b len o e hb=>by
       have h2:=hE.out.rs.lt e;rw [iH ks H2 b (fun hc=>by have:=hkb b hc;omega)];exact hb
      refine ay.any (af.lend ks (.cons (.same _) (.cons hfr (.cons (.same _) (.cons (.same _) .nil)))) (ih n' rfl (killL H2 ks) lo (p++[w]) _ y hout (by rw [iT];omega) (by simp) (by simp;omega) hlim)) ?_;rintro r H4 ⟨hr1,hr2,hr3⟩;have hE4:zk h H4 lo v x r (jd v t n' (p++[w]) (mQ v t (n'+1) p f k)):=by
       have hE5:zk h (killL H2 ks) lo v x y (mQ v t (n'+1) p f k):=by
        refine⟨by rw [iH ks H2 _ (fun hc=>by have:=hkb _ hc;omega)];exact hE3.net,hout,fun b o hb hne=>by rw [iH ks H2 b (fun hc=>by have h1:=hkb b hc;have h2:=aK hb;omega)];exact hE3.keep b o hb hne,hE.new⟩
       exact hE5.call hl0 hr1 hr2 hr3
      simp [-ae,-ai,-ah,-AV.solid,e1,e2,e4,e9,e10,hr1.rs.fix,ew];exact⟨k+1,by omega,by omega,by omega,by rw [hsuc];exact hE4⟩
     ·rw [Bool.not_eq_true] at hcb;simp [-ae,-ai,-ah,-AV.solid,e1,e2,e3,e4,e9,e10,hlt,hw,hw',hy3f,hs2f,aO,ew,hEn3,hEl3,hEn3',hcb];exact⟨k+1,by omega,by omega,by omega,by rw [hsuc,qO (by rintro⟨_,_,c⟩;rw [hcb] at c;cases c)];exact hE3⟩
   ·have hlim': ¬((mQ v t n p f k).length:Int)≤1024:=by omega
    have hstop:=G6 (v:=v) (t:=t) (n:=n) (path:=p) (f:=f) (k:=k) (by omega) ((df v (lastT p)).length - k);rw [show k+((df v (lastT p)).length - k)=(df v (lastT p)).length by omega,hall] at hstop;simp [-ae,-ai,-ah,-AV.solid,e1,e2,e3,e4,e9,e10,hlt,hw,hw',hyf,hyl,hlim,hlim'];rw [hstop];refine⟨hE.out,hE.keep,fun b off len e=> ?_⟩;rcases hE.new _ _ _ e with h1 | h1
    ·exact .inl h1
    ·exact .inr (by omega)
  ·obtain rfl:k=(df v (lastT p)).length:=by omega
   rw [hall] at hE;simp [-ae,-ai,-ah,-AV.solid,e1,e2,e3,e4,e9,e10,hyf];refine⟨hE.out,hE.keep,fun b off len e=> ?_⟩;rcases hE.new _ _ _ e with h1 | h1
   ·exact .inl h1
   ·exact .inr (by omega)
theorem Pg (v:bv)(t:Bytes)(ok:aY v): ∀n,MV gl v t n
 | 0=>KT v t ok 0 fun n' e=>by omega
 | n+1=>KT v t ok (n+1) fun n' e=>by
  obtain rfl:n'=n:=by omega
  exact Pg v t ok n'
set_option maxHeartbeats 4000000 in
theorem LZ (n:bv)(a b:Bytes)(hp:n.pts.length≤1000)(hl:n.lks.length≤1000):af Tryz.prog gl 173 [.agg (bE n),.str a,.str b] h fun x h'=>x=sF (cO n) a b∧h'=h:=by
 refine af.fresh' (af.body Tryz.f173 _ mixed Tryz.func173 rfl rfl (by simp [Tryz.ntmps173]) ?_);simp;refine ay.pure _ (fun _=>pW n hp hl) ?_;have ok:=oh n;generalize cO n=v at*;have hpl:=ok.plen;have hno: ¬(aL v.pts a=true∧aL v.pts b=true)→eH v a b=([],16):=fun hq=>by unfold eH;rw [if_neg hq]
 have hlt: ∀s,aL v.pts s=false→lv (fun q:Pt=>decide (q.name=s)) v.pts<0:=fun s hs=>by
  have:=uJ v.pts s;rw [hs] at this;exact of_decide_eq_true this
 simp;refine ay.pure _ (fun _=>fo v.pts 64 a (by omega)) ?_;rw [zG (by omega)];by_cases qa:aL v.pts a=true
 ·rw [qW qa];have hna: ¬(gZ v.pts a:Int)<0:=by omega
  simp [hna];refine ay.pure _ (fun _=>fo v.pts 64 b (by omega)) ?_;rw [zG (by omega)];by_cases qb:aL v.pts b=true
  ·rw [qW qb];have hnb: ¬(gZ v.pts b:Int)<0:=by omega
   simp [hnb];have hpe:eH v a b=if 1024<(jd v b 15 [a] []).length then ([],3) else (jd v b 15 [a] [],0):=by unfold eH;rw [if_pos ⟨qa,qb⟩]
   rw [sF,hpe];generalize hH0:h++[cZ.cells 2 [[AV.ro (n.pts.map aZ),AV.ro (n.lks.map jF)]],cZ.cells 2 [[AV.ro (v.pts.map aZ),AV.ro (v.lks.map jF)]],cZ.cells 1 [[AV.str a]]]=H0;have hl0:H0.length=h.length+3:=by rw [←hH0];simp
   have hc0:H0[h.length+2]? =some (.cells 1 [[.str a]]):=by rw [←hH0];simp
   have hb0: ∃g,killL H0 [h.length+2]=h++g:=by
    rw [←hH0];exact jk [h.length+2] h _ (by simp)
   have hk0:(killL H0 [h.length+2]).length=h.length+3:=by rw [iT,hl0]
   refine ay.any (af.lend [h.length+2] (args':=[.agg (bE v),.ro ([a].map aO),.str b,.nil]) (.cons (.same _) (.cons (gq.all (m:=1) (es:=[[.str a]]) hc0 (by simp)) (.cons (.same _) (.cons (.same _) .nil)))) (Pg v b ok 15 (killL H0 [h.length+2]) h.length [a] [] .nil Ls.nil (by omega) (by simp) (by simp) (by simp))) ?_;rintro r H4 ⟨hr1,hr2,hr3⟩;have hB4: ∃g,H4=h++g:=by
    refine jw hb0 (fun b o _ ho=>hr2 b o ho (by simp)) ?_;rcases Nat.eq_zero_or_pos h.length with hz | hz
    ·omega
    ·obtain⟨o,ho,_⟩:=aN (l:=killL H0 [h.length+2]) (i:=h.length - 1) (by omega);have:=aK (hr2 _ o ho (by simp));omega
   have hrf:=hr1.rs.fix;have hrl:=hr1.rs.len2;rw [List.length_map] at hrl;by_cases hlim:1024<(jd v b 15 [a] []).length
   ·have hlim':(1024:Int)<(jd v b 15 [a] []).length:=by omega
    rw [if_pos hlim];simp [-ah,-AV.solid,hrf,hrl,hlim,hlim'];exact⟨hB4,.tup' (.cons .nil (.cons (.data _ (by simp)) .nil))⟩
   ·have hlim': ¬(1024:Int)<(jd v b 15 [a] []).length:=by omega
    rw [if_neg hlim];simp [-ah,-AV.solid,hrf,hrl,hlim,hlim'];exact⟨hB4,.tup' (.cons (hr1.frz (by omega) (sG _)) (.cons (.data _ (by simp)) .nil))⟩
  ·have hb:=hlt b (by simpa using qb);simp [hb];rw [sF,hno fun c=>qb c.2];exact .tup' (.cons .nil (.cons (.data _ (by simp)) .nil))
 ·have ha:=hlt a (by simpa using qa);simp [ha];refine ay.pure (.int .i64 0) (fun c=>by cases c) ?_;simp [ha];rw [sF,hno fun c=>qa c.1];exact .tup' (.cons .nil (.cons (.data _ (by simp)) .nil))
end Go.Proofs.YtkpioblbeiaefaaGreat
