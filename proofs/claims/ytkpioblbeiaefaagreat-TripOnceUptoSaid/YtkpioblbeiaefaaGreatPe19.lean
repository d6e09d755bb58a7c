/- Part 19 of the lemmas below the statements of this seat: GrE, MoveA. -/
import Derived.Test.YtkpioblbeiaefaaGreatPe18
set_option linter.unusedSectionVars false
set_option linter.unusedVariables false
set_option linter.unusedSimpArgs false
set_option linter.unnecessarySimpa false
set_option maxRecDepth 100000
section
namespace Go.Proofs.YtkpioblbeiaefaaGreat
open Go Go.Abs Go.Toll
variable {gl : aM} {h : ae}
def Cz (n:Int):List AV:=[.int .i64 n]
structure qm (h H:ae)(p m:Nat)(v:bg)(far:List Int)(x:AV)(Q:List Bytes):Prop where
 rr:H[p]? =some (.cells 3 [aS v m])
 dist:H[p+1]? =some (.cells 1 (far.map Cz))
 queue:Oq 1 (p+2) H x (Q.map (sV v))
 base: ∃g,H=h++g
section
variable {H H' : ae} {p m : Nat} {v : bg} {far : List Int} {x : AV} {Q : List Bytes}
theorem qm.all (b:qm h H p m v far x Q):(H[p]? =some (.cells 3 [aS v m])∧p<H.length∧ ∀hl:p<H.length,H[p]= .cells 3 [aS v m])∧
  H[p+1]? =some (.cells 1 (far.map Cz))∧p+1<H.length∧ ∀hl:p+1<H.length,H[p+1]= .cells 1 (far.map Cz):=
 ⟨⟨b.rr,(zA.1 b.rr).1,fun _=>(zA.1 b.rr).2⟩,b.dist,(zA.1 b.dist).1,fun _=>(zA.1 b.dist).2⟩
theorem qm.more (b:qm h H p m v far x Q)(g:ae):qm h (H++g) p m v far x Q:=
 ⟨by rw [zC b.all.1.2.1];exact b.rr,by rw [zC b.all.2.2.1];exact b.dist,b.queue.more g,aF b.base g⟩
theorem qm.set (b:qm h H p m v far x Q)(hp:h.length≤p)(far':List Int):qm h (H.set (p+1) (.cells 1 (far'.map Cz))) p m v far' x Q:=
 ⟨by rw [zJ (by omega)];exact b.rr,zI b.all.2.2.1,b.queue.put (by omega),dI b.base (by omega) _⟩
theorem qm.push (b:qm h H p m v far x Q) {lo:Nat} {x':AV} {Q':List Bytes} (g:Grow lo H x H')(hl:h.length≤lo)(q:Oq 1 (p+2) H' x' (Q'.map (sV v))):qm h H' p m v far x' Q':=
 ⟨g.keep _ _ b.rr fun off len e=>by have:=b.queue.above _ _ _ e;omega,g.keep _ _ b.dist fun off len e=>by have:=b.queue.above _ _ _ e;omega,q,g.base h hl b.base⟩
theorem qm.tail (b:qm h H p m v far x Q) {x':AV} {Q':List Bytes} (q:Oq 1 (p+2) H x' (Q'.map (sV v))):qm h H p m v far x' Q':=⟨b.rr,b.dist,q,b.base⟩
end
theorem Rs.based {n:Nat} {h H:ae} {x:AV} {es:List (List AV)} (r:Rs n h x es)(hb: ∃g,H=h++g):Rs n H x es:=by
 obtain⟨g,rfl⟩:=hb;exact r.append g
set_option maxHeartbeats 8000000 in
theorem JB (v:bg)(m:Nat)(p:List Bytes)(y t:Bytes)(us:List Bool)(xu:AV)(ok:aU v)(hy:aG v.pts y=true)(ht:aG v.pts t=true)(hx:Rs 1 h xu (us.map jI))(hul:us.length=(bu v).length)(hus: ∀s,aG v.pts s=true→us[aV v s]? =some (decide (s∈p))):
  aa Tryz.prog gl 198 [.agg (aS v m),.int .i64 (aV v y),.int .i64 (aV v t),xu] h fun r h'=>(∃n,r= .int .i64 n∧Rz v p y t n)∧h'=h:=by
 refine aa.freshR (aa.body Tryz.f198 _ mixed Tryz.func198 rfl rfl (by simp [Tryz.ntmps198]) ?_);have hnl:(bu v).length≤64:=by rw [kJ];exact ok.plen
 have hlk:=ok.llen;obtain⟨q,hq⟩: ∃q,q=h.length:=⟨_,rfl⟩;have hxf:=hx.fix;simp [aS];refine⟨by omega,?_⟩;have hH0:qm h (h++[.cells 3 [aS v m],.cells 1 ((List.replicate (bu v).length (0:Int)).map Cz),.cells 1 [sV v y]]) q m v (List.replicate (bu v).length 0) (.own (q+2) 0 1) [y]:=
  ⟨by simp [hq],by simp [hq],Ls.oq (Ls.own (es:=[sV v y]) (by simp [hq]) (by omega) (by simp) (by simp [sV])),_,rfl⟩
 rw [List.map_replicate] at hH0;rw [←hq];have hst:=Hop.first (v:=v) (p:=p) (y:=y) (t:=t) ok hy;generalize hf0:List.replicate (bu v).length (0:Int)=far0 at*;refine aT.down mixed (fun M fr H=>fr 1= .int .i64 (aV v y)∧fr 2= .int .i64 (aV v t)∧fr 3=xu∧fr 4= .ptr q 0 0∧fr 9= .own (q+1) 0 (bu v).length∧ ∃x Q far,fr 10=x∧qm h H q m v far x Q∧Hop v p y t far Q∧M=far.count 0+Q.length∧M≤100) (far0.count 0+1)
  ⟨by simp,by simp,by simp,by simp,by simp,.own (q+2) 0 1,[y],far0,by simp,by simpa [Cz,sV,aS] using hH0,hst,by simp,by have:=List.count_le_length (a:=(0:Int)) (l:=far0);have:=hst.len;omega⟩ ?_
 clear hH0 hst;rintro M fr H ⟨e1,e2,e3,e4,e9,x,Q,far,e10,hH,hh,rfl,hM100⟩;have hqf:=hH.queue.rs.fix
 cases Q with
 | nil=>
  simp [-ak,-av,-ai,-AV.solid,-bJ,-bM,e10,hqf,hH.queue.rs.len2];exact⟨hH.base,_,.data _ (.int _ _),-1,rfl,.inl ⟨rfl,hh.none ok hy ht⟩⟩
 | cons u Q=>
  obtain⟨u1,u2⟩:=hh.qs u List.mem_cons_self;have hsh:=hh.head_short ok hy;have rx:=Rs.ix Tryz.prog hH.queue.rs 0 (by omega) (y:=sV v u) (by simp);have htl:=hH.queue.tail Tryz.prog (by omega);have hfl:=hh.len;have hgu:=Aj hfl u1;have hgu':=(zA.1 hgu).2;have hpu:=dD u1;by_cases hut:u=t
  ·subst hut;have hfd:=hh.found ok hy;simp [-ak,-av,-ai,-AV.solid,-bJ,-bM,e1,e2,e3,e4,e9,e10,hqf,hH.queue.rs.len2,rx,htl,sV,hH.all,Cz,hgu,hgu',hfl,hpu];exact⟨hH.base,_,.data _ (.int _ _),_,rfl,.inr ⟨hsh.1,hsh.2,hfd⟩⟩
  ·have hne: ¬(aV v u:Int)=aV v t:=fun e=>hut (gu ok u1 ht (by omega));have hrow:=lW (fD u1);have hrl:=(zA.1 hrow).1;have hrow':=(zA.1 hrow).2;have hrlen:=oD v u;have hH1:=hH.tail htl.1;have hm:=hh.pop hut;simp [-ak,-av,-ai,-AV.solid,-bJ,-bM,e1,e2,e3,e4,e9,e10,hqf,hH.queue.rs.len2,rx,htl,sV,aS,hH.all,hne,hrow,hrow',hrl];refine aT.up mixed (rowOf v u).length (fun k fr H=>fr 1= .int .i64 (aV v y)∧fr 2= .int .i64 (aV v t)∧fr 3=xu∧fr 4= .ptr q 0 0∧fr 9= .own (q+1) 0 (bu v).length∧fr 11= .int .i64 (aV v u)∧fr 39= .ro ((rowOf v u).map bA)∧fr 40= .int .i64 (rowOf v u).length∧fr 41= .int .i64 k∧
     ∃x Q' far',fr 10=x∧qm h H q m v far' x Q'∧Cr v p y t far' Q' u k∧0≤cO v far' u∧cO v far' u≤63∧far'.count 0+Q'.length=far.count 0+Q.length) 0 (by omega)
    ⟨by simp [e1],by simp [e2],by simp [e3],by simp [e4],by simp [e9],by simp,by simp,by simp,by simp,_,Q,far,by simp,hH1,hm,hsh.1,hsh.2,rfl⟩ ?_
   clear hH hh hH1 hm e1 e2 e3 e4 e9 e10 hqf rx htl hgu hgu' hfl u2 hsh;rintro k fr H hk ⟨e1,e2,e3,e4,e9,e11,e39,e40,e41,x,Q',far',e10,hH,hm,hu0,hu63,hc⟩;have hqf:=hH.queue.rs.fix;have hfl:=hm.len;rcases zN k (rowOf v u).length with hlt | hge
   ·obtain⟨r,hr,hr'⟩:=aN hlt;obtain⟨l,l1,rfl,l3,l4,l5,l6⟩:=BI ok hr;have ew:=aC (i:=k) (by omega);have hgd:=Aj hfl l6;have hgd':=(zA.1 hgd).2;have hpd:=dD l6;have hgu:=Aj hfl u1;have hgu':=(zA.1 hgu).2;have hud:=hus l.dst l6;have hud':=(zA.1 hud).2;have hxH:=(Rs.based hx hH.base).append [.cells 3 [bA (aX v l)]];have rx:=Rs.ix Tryz.prog hxH (aV v l.dst) (by omega) (y:=[.bool (decide (l.dst∈p))]) (by simp [hud,jI]);have hH1:=hH.more [.cells 3 [bA (aX v l)]];simp only [Ab,aX] at rx;have hdy:(aV v l.dst:Int)=aV v y↔l.dst=y:=⟨fun e=>gu ok l6 hy (by omega),fun e=>by rw [e]⟩;have hdy':aV v l.dst=aV v y↔l.dst=y:=⟨fun e=>gu ok l6 hy e,fun e=>by rw [e]⟩;have ewf:IntKind.i64.wrap (cO v far' u+1)=cO v far' u+1:=aD (by omega) (by omega);simp [-ak,-av,-ai,-AV.solid,-bJ,-bM,e1,e2,e3,e4,e9,e10,e11,e39,e40,e41,hlt,hr,hr',aX,hH.all,hgd,hgd',hfl,hpd,Cz,hxf,rx,hdy,hdy',hgu,hgu',hpu,ew,ewf,hqf];refine⟨fun c1 c2 c3=>⟨by decide,?_⟩,fun cc=>⟨k+1,by omega,by omega,by omega,Q',far',hH1,hm.old l1 ?_,hu0,hu63,hc⟩⟩
    ·have hS:=(hH.set (by omega) (far'.set (aV v l.dst) (cO v far' u+1))).more [.cells 3 [bA (aX v l)],.cells 1 [sV v l.dst]];rw [List.map_set] at hS;have hQl:Q'.length≤100:=by simp at hM100;omega
     refine Dj (lo:=q+2) (n:=1) (es:=Q'.map (sV v)) (ys:=[sV v l.dst]) (by simpa [sV,Cz,aX] using hS.queue) (by have:=hH.all;simp;omega) (by simp [bF,sV]) (by simp;omega) ?_;intro s1 H1 hs1 hg1 _;have hs1f:=hs1.rs.fix;have hHn:=hS.push (x':=s1) (Q':=Q'++[l.dst]) (by simpa [sV,Cz,aX] using hg1) (by omega) (by simpa using hs1.oq);have hmn:=hm.new ok l1 c1 c2 c3 hy;have hfu:cO v (far'.set (aV v l.dst) (cO v far' u+1)) u=cO v far' u:=by
      rw [GK ok hfl l6 u1,if_neg];rintro rfl;rcases hm.at'.2.1 with e | e
      ·exact c2 e
      ·exact e c1
     have hz:=NT (far:=far') (i:=aV v l.dst) (n:=cO v far' u+1) (by rw [hgd,c1]) (by omega);simp [-ak,-av,-ai,-AV.solid,-bJ,-bM,e1,e2,e3,e4,e9,e11,e39,e40,e41,hs1f,ew];exact⟨k+1,by omega,by omega,by omega,Q'++[l.dst],_,hHn,hmn,by rw [hfu];exact hu0,by rw [hfu];exact hu63,by simp;omega⟩
    ·by_cases c1:cO v far' l.dst=0
     ·by_cases c2:l.dst=y
      ·exact .inr (.inl c2)
      ·exact .inl (List.mem_append_left _ (cc c1 c2))
     ·exact .inr (.inr c1)
   ·obtain rfl:k=(rowOf v u).length:=by omega
    rw [tT] at hm;have hh1:=hm.finish ok;simp [-ak,-av,-ai,-AV.solid,e1,e2,e3,e4,e9,e10,e11,e39,e40,e41];exact⟨far'.count 0+Q'.length,by omega,Q',far',hH,hh1,rfl,by simp at hM100;omega⟩
end Go.Proofs.YtkpioblbeiaefaaGreat
namespace Go.Proofs.YtkpioblbeiaefaaGreat
open Go Go.Abs Go.Toll
variable {gl : aM} {h : ae}
theorem Oq.isOwn {n lo:Nat} {H:ae} {x:AV} {es:List (List AV)} (r:Oq n lo H x es)(h:es≠[]): ∃b off all,x= .own b off es.length∧lo≤b∧H[b]? =some (.cells n all)∧off+es.length≤all.length∧(all.drop off).take es.length=es:=by
 rcases r.1 with⟨_,e⟩ | h1
 ·exact absurd e h
 ·exact h1
theorem C8 (p:List Bytes)(x:AV)(lo:Nat)(hne:p≠[])(hx:Oq 1 lo h x (p.map aR))(hl:p.length≤1000000):aa Tryz.prog gl 197 [x] h fun v h'=>v= .ro (p.map aR)∧h'=h:=by
 refine aa.fresh' (aa.body Tryz.f197 _ mixed Tryz.func197 rfl rfl (by simp [Tryz.ntmps197]) ?_);obtain⟨b,off,all,rfl,h1,h2,h3,h4⟩:=Oq.isOwn hx (by simpa using hne);obtain⟨hb,hb'⟩:=zA.1 h2;have hpn:=LH p;simp [h2,hb',hb];rw [List.length_map] at h3 h4;have hm:min p.length (all.length - off)=p.length:=by omega
 rw [h4,hm];refine⟨⟨h3,hpn,by omega,by omega⟩,?_⟩;have:=qd.ownD (n:=h.length) (b:=h.length+1) (m:=1) (off:=0) (len:=p.length) (es:=p.map aR) (es':=p.map aR) (h:=h++[.dead,.cells 1 (p.map aR)]) (by simp) (by omega) (by simp) (by rw [List.drop_zero,zG (by simp)]) (mM p);exact this
def fK (p:List Bytes):List AV:=[.ro (p.map aR)]
def uV (R:Nat):AV:= .fn (.func 196) [] [.ptr (R+5) 0 0,.ptr R 0 0,.ptr (R+4) 0 0,.ptr (R+1) 0 0,.ptr (R+2) 0 0,.ptr (R+6) 0 0]
structure fI (h H:ae)(R m:Nat)(v:bg)(t:Bytes)(us:List Bool)(p:List Bytes)(x:AV)(f:List (List Bytes))(y:AV):Prop where
 roads:H[R]? =some (.cells 3 [aS v m])
 goal:H[R+1]? =some (.cells 1 [[.int .i64 (aV v t)]])
 outB:H[R+2]? =some (.cells 1 [[y]])
 marks:H[R+3]? =some (.cells 1 (us.map jI))
 usedB:H[R+4]? =some (.cells 1 [[.own (R+3) 0 (bu v).length]])
 pathB:H[R+5]? =some (.cells 1 [[x]])
 walkB:H[R+6]? =some (.cells 1 [[uV R]])
 path:Oq 1 (R+7) H x (p.map aR)
 out:Ls 1 (R+7) H y (f.map fK)
 apart: ∀b off len off' len',x= .own b off len→y≠ .own b off' len'
 base: ∃g,H=h++g
 ple:h.length≤R
section
variable {H H' : ae} {R m : Nat} {v : bg} {t : Bytes} {us us' : List Bool} {p p' : List Bytes} {x x' y y' : AV} {f f' : List (List Bytes)}
theorem fI.keep (w:fI h H R m v t us p x f y)(hk: ∀b o,b<R+7→H[b]? =some o→H'[b]? =some o)(hx:Oq 1 (R+7) H' x (p.map aR))(hy:Ls 1 (R+7) H' y (f.map fK))(hb: ∃g,H'=h++g):fI h H' R m v t us p x f y:=
 ⟨hk _ _ (by omega) w.roads,hk _ _ (by omega) w.goal,hk _ _ (by omega) w.outB,hk _ _ (by omega) w.marks,hk _ _ (by omega) w.usedB,hk _ _ (by omega) w.pathB,hk _ _ (by omega) w.walkB,hx,hy,w.apart,hb,w.ple⟩
theorem fI.more (w:fI h H R m v t us p x f y)(g:ae):fI h (H++g) R m v t us p x f y:=
 w.keep (fun b o _ ho=>by rw [zC (zA.1 ho).1];exact ho) (w.path.more g) (w.out.more g) (aF w.base g)
theorem fI.all (w:fI h H R m v t us p x f y):(H[R]? =some (.cells 3 [aS v m])∧H[R+1]? =some (.cells 1 [[.int .i64 (aV v t)]])∧H[R+2]? =some (.cells 1 [[y]])∧H[R+3]? =some (.cells 1 (us.map jI))∧H[R+4]? =some (.cells 1 [[.own (R+3) 0 (bu v).length]])∧H[R+5]? =some (.cells 1 [[x]])∧H[R+6]? =some (.cells 1 [[uV R]]))∧
  (R<H.length∧R+1<H.length∧R+2<H.length∧R+3<H.length∧R+4<H.length∧R+5<H.length∧R+6<H.length)∧
  ((∀hl:R<H.length,H[R]= .cells 3 [aS v m])∧(∀hl:R+1<H.length,H[R+1]= .cells 1 [[.int .i64 (aV v t)]])∧(∀hl:R+2<H.length,H[R+2]= .cells 1 [[y]])∧(∀hl:R+3<H.length,H[R+3]= .cells 1 (us.map jI))∧(∀hl:R+4<H.length,H[R+4]= .cells 1 [[.own (R+3) 0 (bu v).length]])∧(∀hl:R+5<H.length,H[R+5]= .cells 1 [[x]])∧ ∀hl:R+6<H.length,H[R+6]= .cells 1 [[uV R]]):=by
 have hl:=(zA.1 w.walkB).1;exact⟨⟨w.roads,w.goal,w.outB,w.marks,w.usedB,w.pathB,w.walkB⟩,⟨by omega,by omega,by omega,by omega,by omega,by omega,hl⟩,fun _=>(zA.1 w.roads).2,fun _=>(zA.1 w.goal).2,fun _=>(zA.1 w.outB).2,fun _=>(zA.1 w.marks).2,fun _=>(zA.1 w.usedB).2,fun _=>(zA.1 w.pathB).2,fun _=>(zA.1 w.walkB).2⟩
theorem fI.grow (w:fI h H R m v t us p x f y) {lo:Nat} (g:Grow lo H x H')(hlo:h.length≤lo)(q:Ls 1 (R+7) H' x' (p'.map aR))(hn: ∀b off len,x'= .own b off len→H.length≤b):fI h (H'.set (R+5) (.cells 1 [[x']])) R m v t us p' x' f y:=by
 have hx:=w.path.above;have k: ∀b o,b<R+7→b≠R+5→H[b]? =some o→(H'.set (R+5) (.cells 1 [[x']]))[b]? =some o:=fun b o hb hne ho=>by
  rw [zJ (Ne.symm hne)];exact g.keep b o ho fun off len e=>by have:=hx _ _ _ e;omega
 have hl:=g.len;have hw:=w.all.2.1;have hb:=g.base h hlo w.base;refine⟨k _ _ (by omega) (by omega) w.roads,k _ _ (by omega) (by omega) w.goal,k _ _ (by omega) (by omega) w.outB,k _ _ (by omega) (by omega) w.marks,k _ _ (by omega) (by omega) w.usedB,zI (by omega),k _ _ (by omega) (by omega) w.walkB,(q.put (by omega)).oq,?_,fun b off len off' len' e e'=> ?_,dI hb (by have:=w.ple;omega) _,w.ple⟩
 ·exact (w.out.grow g fun b e _ off len e'=>w.apart _ _ _ _ _ e' e).put (by omega)
 ·have h1:=hn _ _ _ e;have h2:=w.out.rs.lt e';omega
theorem fI.mark (w:fI h H R m v t us p x f y)(us':List Bool):fI h (H.set (R+3) (.cells 1 (us'.map jI))) R m v t us' p x f y:=by
 have k: ∀b o,b≠R+3→H[b]? =some o→(H.set (R+3) (.cells 1 (us'.map jI)))[b]? =some o:=fun b o hne ho=>by rw [zJ (Ne.symm hne)];exact ho
 exact⟨k _ _ (by omega) w.roads,k _ _ (by omega) w.goal,k _ _ (by omega) w.outB,zI w.all.2.1.2.2.2.1,k _ _ (by omega) w.usedB,k _ _ (by omega) w.pathB,k _ _ (by omega) w.walkB,w.path.put (by omega),w.out.put (by omega),w.apart,dI w.base (by have:=w.ple;omega) _,w.ple⟩
theorem fI.add (w:fI h H R m v t us p x f y) {lo:Nat} (g:Grow lo H y H')(hlo:h.length≤lo)(q:Ls 1 (R+7) H' y' (f'.map fK))(hn: ∀b off len,y'= .own b off len→H.length≤b):fI h (H'.set (R+2) (.cells 1 [[y']])) R m v t us p x f' y':=by
 have hy:=w.out.above;have k: ∀b o,b<R+7→b≠R+2→H[b]? =some o→(H'.set (R+2) (.cells 1 [[y']]))[b]? =some o:=fun b o hb hne ho=>by
  rw [zJ (Ne.symm hne)];exact g.keep b o ho fun off len e=>by have:=hy _ _ _ e;omega
 have hl:=g.len;have hw:=w.all.2.1;have hb:=g.base h hlo w.base;refine⟨k _ _ (by omega) (by omega) w.roads,k _ _ (by omega) (by omega) w.goal,zI (by omega),k _ _ (by omega) (by omega) w.marks,k _ _ (by omega) (by omega) w.usedB,k _ _ (by omega) (by omega) w.pathB,k _ _ (by omega) (by omega) w.walkB,?_,q.put (by omega),fun b off len off' len' e e'=> ?_,dI hb (by have:=w.ple;omega) _,w.ple⟩
 ·refine (w.path.keep fun b off len o e ho=> ?_);rw [zJ (by have:=w.path.above _ _ _ e;omega)];exact g.keep b o ho fun off' len' e'=>w.apart _ _ _ _ _ e e'
 ·have h1:=hn _ _ _ e';have h2:=w.path.rs.lt e;omega
theorem fI.cut (w:fI h H R m v t us p x f y)(q:Oq 1 (R+7) H x' (p'.map aR))(hs: ∀b off len,x'= .own b off len→ ∃off' len',x= .own b off' len'):fI h (H.set (R+5) (.cells 1 [[x']])) R m v t us p' x' f y:=by
 have k: ∀b o,b≠R+5→H[b]? =some o→(H.set (R+5) (.cells 1 [[x']]))[b]? =some o:=fun b o hne ho=>by rw [zJ (Ne.symm hne)];exact ho
 refine⟨k _ _ (by omega) w.roads,k _ _ (by omega) w.goal,k _ _ (by omega) w.outB,k _ _ (by omega) w.marks,k _ _ (by omega) w.usedB,zI w.all.2.1.2.2.2.2.2.1,k _ _ (by omega) w.walkB,q.put (by omega),w.out.put (by omega),fun b off len off' len' e e'=> ?_,dI w.base (by have:=w.ple;omega) _,w.ple⟩;obtain⟨o1,l1,e1⟩:=hs b off len e;exact w.apart _ _ _ _ _ e1 e'
end
def marked (v:bg)(us:List Bool)(p:List Bytes):Prop:=us.length=(bu v).length∧ ∀s,aG v.pts s=true→us[aV v s]? =some (decide (s∈p))
theorem marked.push {v:bg} (ok:aU v) {us:List Bool} {p:List Bytes} {s:Bytes} (hm:marked v us p)(hs:aG v.pts s=true):marked v (us.set (aV v s) true) (p++[s]):=by
 refine⟨by rw [List.length_set];exact hm.1,fun z hz=> ?_⟩;by_cases e:z=s
 ·subst e;rw [zI (by rw [hm.1];exact dD hz)];simp
 ·rw [zJ (fun h=>e (gu ok hs hz h).symm),hm.2 z hz];simp [e]
def Ja (gl:aM)(h:ae)(R m:Nat)(v:bg)(t:Bytes)(n:Nat):Prop:=
 ∀(s:Bytes) (p:List Bytes) (us:List Bool) (f:List (List Bytes)) (x y:AV) (H:ae),fI h H R m v t us p x f y→marked v us p→aG v.pts s=true→s∉p→p.length+1+n=16→f.length≤1024→
  aa Tryz.prog gl 196 [.int .i64 (aV v s),.ptr (R+5) 0 0,.ptr R 0 0,.ptr (R+4) 0 0,.ptr (R+1) 0 0,.ptr (R+2) 0 0,.ptr (R+6) 0 0] H fun r H'=>r= .tup []∧ ∃x' y',fI h H' R m v t us p x' (jA v t n (p++[s]) f) y'
def MN:Nat→Option (List (Nat×Nat)):=fun i=>if i=0 then some [(0,7)] else if i=3 then some [(0,4)] else none
set_option maxHeartbeats 8000000 in
theorem Ex (R m:Nat)(v:bg)(t:Bytes)(ok:aU v)(ht:aG v.pts t=true)(n:Nat)(ih: ∀n',n'+1=n→Ja gl h R m v t n'):Ja gl h R m v t n:=by
 intro s p us f x y H hW hmk hs hsp hn hfl;have hps:=dD hs;have hpg:=fD hs;have hpg':=(zA.1 hpg).2;have hnl:(bu v).length≤64:=by rw [kJ];exact ok.plen
 have hlk:=ok.llen;have hpf:=hW.path.rs.fix;refine aa.bodyL MN Tryz.f196 _ mixed Tryz.func196 rfl rfl (by simp [Tryz.ntmps196]) ?_;simp [-ak,-av,-ai,-AV.solid,-bJ,-bM,MN,hW.all,aS,hps,hpg,hpg',aR,hpf];refine⟨by decide,?_⟩;refine Dj (lo:=R+7) (n:=1) (es:=p.map aR) (ys:=[aR s]) (by simpa [aR] using hW.path.more [.cells 1 [aR s]]) (by have:=hW.all.2.1;simp;omega) (by simp [bF,aR]) (by simp;omega) ?_;intro s1 H1 hs1 hg1 hn1;have hs1f:=hs1.rs.fix;have hl1:=hg1.len;have hW1:=(hW.more [.cells 1 [aR s]]).grow (x':=s1) (p':=p++[s]) (by simpa [aR] using hg1) (by have:=hW.ple;omega) (by simpa using hs1) (by simpa [aR] using hn1);have hk1: ∀b o,b<R+7→H[b]? =some o→H1[b]? =some o:=fun b o hb ho=>hg1.keep b o (by rw [zC (zA.1 ho).1];exact ho) fun off len e=>by have:=hW.path.above _ _ _ e;omega
 have hW0:(H1[R+5]? =some (.cells 1 [[x]])∧R+5<H1.length∧ ∀hl:R+5<H1.length,H1[R+5]= .cells 1 [[x]]):=⟨hk1 _ _ (by omega) hW.pathB,(zA.1 (hk1 _ _ (by omega) hW.pathB)).1,fun _=>(zA.1 (hk1 _ _ (by omega) hW.pathB)).2⟩;have hB: ∀b o,b<R+7→H[b]? =some o→H1[b]? =some o∧b<H1.length∧ ∀hl:b<H1.length,H1[b]=o:=fun b o hb ho=>⟨hk1 b o hb ho,(zA.1 (hk1 b o hb ho)).1,fun _=>(zA.1 (hk1 b o hb ho)).2⟩;have hB4:=hB _ _ (by omega) hW.usedB;have hB3:=hB _ _ (by omega) hW.marks;have hB2:=hB _ _ (by omega) hW.outB;have hB1:=hB _ _ (by omega) hW.goal;have hB0:=hB _ _ (by omega) hW.roads;have hul:=hmk.1;have hyf:=hW.out.rs.fix;have hmk1:=hmk.push ok hs;have hW2:=hW1.mark (us.set (aV v s) true);have hsu:us[aV v s]? =some false:=by rw [hmk.2 s hs];simp [hsp]
 have hback:(us.set (aV v s) true).set (aV v s) false=us:=by
  rw [List.set_set];refine List.ext_getElem? fun i=> ?_;by_cases e:aV v s=i
  ·subst e;rw [zI (by rw [hul];exact hps),hsu]
  ·rw [zJ e]
 have hend: ∀(Hn:ae) (x' y':AV) (f':List (List Bytes)),fI h Hn R m v t (us.set (aV v s) true) (p++[s]) x' f' y'→
   fI h ((Hn.set (R+3) (.cells 1 (((us.set (aV v s) true).map jI).set (aV v s) [.bool false]))).set (R+5) (.cells 1 [[bJ x' none (some (p.length:Int))]])) R m v t us p (bJ x' none (some (p.length:Int))) f' y'∧bM Tryz.prog (Hn.set (R+3) (.cells 1 (((us.set (aV v s) true).map jI).set (aV v s) [.bool false]))) (.slice 9) x' none (some (p.length:Int))∧(bJ x' none (some (p.length:Int))).core=bJ x' none (some (p.length:Int))∧(bJ x' none (some (p.length:Int))).gd=true∧(bJ x' none (some (p.length:Int))).solid=true∧ai (bJ x' none (some (p.length:Int)))=[bJ x' none (some (p.length:Int))]∧
   (alen (Hn.set (R+3) (.cells 1 (((us.set (aV v s) true).map jI).set (aV v s) [.bool false]))) x'=(p.length:Int)+1∧lenOk (Hn.set (R+3) (.cells 1 (((us.set (aV v s) true).map jI).set (aV v s) [.bool false]))) (.slice 9) x'):=by
  intro Hn x' y' f' w;have w1:=w.mark ((us.set (aV v s) true).set (aV v s) false);rw [List.map_set,show jI false=[AV.bool false] from rfl] at w1;have hc:=w1.path.rs.cut Tryz.prog (by omega) none (some (p.length:Int)) (by simp [kD,yG,gB];omega);have hln:=w1.path.rs.len2;rw [show (((p++[s]).map aR).length:Int)=(p.length:Int)+1 by simp] at hln;obtain⟨b,off,all,rfl,q1,q2,q3,q4⟩:=Oq.isOwn w1.path (by simp);have e1:bJ (.own b off ((p++[s]).map aR).length) none (some (p.length:Int))= .own b off p.length:=by simp [bJ,gB]
  rw [e1];have w2:=w1.cut (x':= .own b off p.length) (p':=p) ⟨.inr ⟨b,off,all,by simp,q1,q2,by simp at q3 ⊢;omega,?_⟩,LH p⟩ (fun b' off' len' e=>by injection e with e1 e2 e3;exact⟨_,_,by rw [e1]⟩)
  ·rw [hback] at w2;exact⟨w2,hc.2 9 (by simp) (by simp),rfl,rfl,rfl,rfl,hln.1,(hln.2 9).2 trivial⟩
  ·rw [List.length_map];have:=congrArg (List.take p.length) q4;rw [List.take_take,List.length_map,List.length_append,List.length_singleton,Nat.min_eq_left (by omega),List.map_append,List.take_left' (by simp)] at this;exact this
 by_cases hst:s=t
 ·subst hst;have hleaf:=Mo (v:=v) (n:=n) (f:=f) (iZ p s);simp [-ak,-av,-ai,-AV.solid,-bJ,-bM,MN,hW.all,hW0,hs1f,hpf,hB4,hB3,hB2,hB1,hps,hul,jI];rw [List.map_set,show jI true=[AV.bool true] from rfl] at hW2;generalize (H1.set (R+5) (.cells 1 [[s1]])).set (R+3) (.cells 1 ((us.map jI).set (aV v s) [.bool true]))=H3 at hW2 ⊢;refine⟨by decide,ax.pure _ (fun _=>C8 (p++[s]) s1 (R+7) (by simp) hW2.path (by simp;omega)) ?_⟩;simp [-ak,-av,-ai,-AV.solid,-bJ,-bM,-List.map_append,MN,hW2.all,hs1f,hyf];refine aO (lo:=R+7) (n:=1) (es:=f.map fK) (ys:=[fK (p++[s])]) (by simpa [fK] using hW2.out.more [.cells 1 [fK (p++[s])]]) (by have:=hW2.all.2.1;simp;omega) (by simp [bF,fK]) (by simp;omega) ?_;intro y1 H4 hy1 hg4 hn4;have hy1f:=hy1.rs.fix;have hW4:=(hW2.more [.cells 1 [fK (p++[s])]]).add (y':=y1) (f':=f++[p++[s]]) (by simpa [fK] using hg4) (by have:=hW.ple;omega) (by simpa using hy1) (by simpa [fK] using hn4);have hk4: ∀b o,b<R+7→H3[b]? =some o→H4[b]? =some o:=fun b o hb ho=>hg4.keep b o (by rw [zC (zA.1 ho).1];exact ho) fun off len e=>by have:=hW2.out.above _ _ _ e;omega
  have hC: ∀b o,b<R+7→H3[b]? =some o→H4[b]? =some o∧b<H4.length∧ ∀hl:b<H4.length,H4[b]=o:=fun b o hb ho=>⟨hk4 b o hb ho,(zA.1 (hk4 b o hb ho)).1,fun _=>(zA.1 (hk4 b o hb ho)).2⟩;have hC5:=hC _ _ (by omega) hW2.pathB;have hC4:=hC _ _ (by omega) hW2.usedB;have hC3:=hC _ _ (by omega) hW2.marks;have hC2:=hC _ _ (by omega) hW2.outB;have hE:=hend _ _ _ _ hW4;have ewp:IntKind.i64.wrap (p.length:Int)=(p.length:Int):=aD (by omega) (by omega);have hul':(us.set (aV v s) true).length=(bu v).length:=by simpa using hul
  simp [-ak,-av,-ai,-AV.solid,-bJ,-bM,-List.map_append,-List.map_set,MN,hW2.all,hC5,hC4,hC3,hC2,hs1f,hyf,hy1f,hul,hps,jI,hE.2,ewp];rw [hleaf];exact⟨_,_,hE.1⟩
 ·have hne: ¬(aV v s:Int)=aV v t:=fun e=>hst (gu ok hs ht (by omega));have hrow:=lW hpg;have hrl:=(zA.1 hrow).1;have hrow':=(zA.1 hrow).2;simp [-ak,-av,-ai,-AV.solid,-bJ,-bM,MN,hW.all,hW0,hs1f,hpf,hB4,hB3,hB1,hB0,aS,hps,hul,jI,hne,hrow,hrow',hrl];rw [List.map_set,show jI true=[AV.bool true] from rfl] at hW2;generalize (H1.set (R+5) (.cells 1 [[s1]])).set (R+3) (.cells 1 ((us.map jI).set (aV v s) [.bool true]))=H3 at hW2 ⊢;have hrlen:=oD v s;refine aT.upL MN mixed (rowOf v s).length (fun k fr H=>(fr 0= .int .i64 (aV v s)∧fr 1= .ptr (R+5) 0 0∧fr 2= .ptr R 0 0∧fr 3= .ptr (R+4) 0 0∧fr 4= .ptr (R+1) 0 0∧fr 5= .ptr (R+2) 0 0∧fr 6= .ptr (R+6) 0 0)∧fr 34= .ro ((rowOf v s).map bA)∧fr 35= .int .i64 (rowOf v s).length∧fr 36= .int .i64 k∧
    ∃x y,fI h H R m v t (us.set (aV v s) true) (p++[s]) x (wX v t n (p++[s]) f k) y) 0 (by omega)
   ⟨by simp,by simp,by simp,by simp,s1,y,by rw [Mm];exact hW2⟩ ?_
  clear hW2 hW1 hs1 hg1 hn1 hW0 hB hB0 hB1 hB2 hB3 hB4 hl1 hk1 hs1f hpf hyf;rintro k fr H hk ⟨⟨e0,e1,e2,e3,e4,e5,e6⟩,e34,e35,e36,x',y',hWk⟩;have hxf:=hWk.path.rs.fix;have hyf:=hWk.out.rs.fix;have hyl:=hWk.out.rs.len2;have hxl:=hWk.path.rs.len2;have hfle:=ES v t n (p++[s]) f (by omega) k;rcases zN k (rowOf v s).length with hlt | hge
  ·obtain⟨r,hr,hr'⟩:=aN hlt;obtain⟨l,l1,rfl,l3,l4,l5,l6⟩:=BI ok hr;have ew:=aC (i:=k) (by omega);have hpd:=dD l6;have hud:=hmk1.2 l.dst l6;have hud':=(zA.1 hud).2;have hul':aV v l.dst<(us.set (aV v s) true).length:=by rw [hmk1.1];exact hpd
   have hsu2:=Dx (v:=v) (t:=t) (n:=n) (path:=p++[s]) (f:=f) (k:=k) (x:=l.dst) (by rw [iZ];exact l1);generalize hF:wX v t n (p++[s]) f k=F at*;have hWb:=hWk.more [.cells 3 [bA (aX v l)]];have hylb:=hWb.out.rs.len2;have hxlb:=hWb.path.rs.len2;simp only [Ab,aX] at hylb hxlb;by_cases hin:l.dst∈p++[s]
   ·simp [-ak,-av,-ai,-AV.solid,-bJ,-bM,-List.map_set,-List.mem_append,MN,hWk.all,aS,e0,e1,e2,e3,e4,e5,e6,e34,e35,e36,hlt,hr,hr',aX,hul',hmk1.1,hpd,hud,hud',jI,hin,ew];exact⟨k+1,by omega,by omega,by omega,x',y',by rw [hsu2,Ag (by rintro⟨_,c,_⟩;exact c hin)];simpa [aX] using hWb⟩
   ·by_cases hlim:1024<F.length
    ·have hlim':(1024:Int)<F.length:=by omega
     simp [-ak,-av,-ai,-AV.solid,-bJ,-bM,-List.map_set,-List.mem_append,MN,hWk.all,aS,e0,e1,e2,e3,e4,e5,e6,e34,e35,e36,hlt,hr,hr',aX,hul',hmk1.1,hpd,hud,hud',jI,hin,ew,hyf,hylb,hlim,hlim'];exact⟨k+1,by omega,by omega,by omega,x',y',by rw [hsu2,Ag (by rintro⟨c,_⟩;omega)];simpa [aX] using hWb⟩
    ·have hlim': ¬(1024:Int)<F.length:=by omega
     simp [-ak,-av,-ai,-AV.solid,-bJ,-bM,-List.map_set,-List.mem_append,MN,hWk.all,aS,e0,e1,e2,e3,e4,e5,e6,e34,e35,e36,hlt,hr,hr',aX,hul',hmk1.1,hpd,hud,hud',jI,hin,ew,hyf,hylb,hlim,hlim'];have hus:Rs 1 (H++[.cells 3 [[.int .i64 (aV v l.dst),.int .i64 l.min,.int .i64 l.max]]]) (.own (R+3) 0 (bu v).length) ((us.set (aV v s) true).map jI):=by
      have:=Rs.own (n:=1) (h:=H++[.cells 3 [[.int .i64 (aV v l.dst),.int .i64 l.min,.int .i64 l.max]]]) (b:=R+3) (es:=(us.set (aV v s) true).map jI) (by simpa [aX] using hWb.marks) (Ox _);rw [List.length_map,hmk1.1] at this;exact this
     refine ax.any (JB v m (p++[s]) l.dst t (us.set (aV v s) true) _ ok l6 ht hus hmk1.1 hmk1.2) ?_;rintro r h2 ⟨⟨nn,rfl,hnn⟩,rfl⟩;have hcb:=GX ok hnn;have hrange: -1≤nn∧nn≤63:=by rcases hnn with⟨e,_⟩ | ⟨c1,c2,_⟩ <;> omega
     have hpl2:((p++[s]).length:Int)=(p.length:Int)+1:=by simp
     have ewa:IntKind.i64.wrap ((p.length:Int)+1+1)=(p.length:Int)+1+1:=aD (by omega) (by omega);have ewb:IntKind.i64.wrap ((p.length:Int)+1+1+nn)=(p.length:Int)+1+1+nn:=aD (by omega) (by omega);rw [hpl2] at hcb;have hxlb1: ∀e,lenOk (H++[.cells 3 [[.int .i64 (aV v l.dst),.int .i64 l.min,.int .i64 l.max]]]) (.slice e) x':=fun e=>(hxlb.2 e).2 trivial;have hxlb2:alen (H++[.cells 3 [[.int .i64 (aV v l.dst),.int .i64 l.min,.int .i64 l.max]]]) x'=(p.length:Int)+1:=by rw [hxlb.1];simp
     simp [-ak,-av,-ai,-AV.solid,-bJ,-bM,-List.map_set,-List.mem_append,MN,hWk.all,aS,e0,e1,e2,e3,e4,e5,e6,e34,e35,e36,hlt,hr,hr',aX,hul',hmk1.1,hpd,hud,hud',jI,hin,ew,hyf,hxf,hxlb1,hxlb2,ewa,ewb,uV];refine⟨fun c1 c2=> ?_,fun cc=>⟨k+1,by omega,by omega,by omega,x',y',by rw [hsu2,Ag (by rintro⟨_,_,c⟩;rw [hcb] at c;have:=of_decide_eq_true c;have:=cc this.1;omega)];simpa [aX] using hWb⟩⟩;have hc3:kS v (p++[s]++[l.dst]) t=true:=by rw [hcb];exact decide_eq_true ⟨c1,by omega⟩
     obtain⟨n',rfl⟩: ∃n',n=n'+1:=⟨n - 1,by omega⟩;rw [OB ⟨by omega,hin,hc3⟩] at hsu2;have hcl:=ih n' rfl l.dst (p++[s]) (us.set (aV v s) true) F x' y' _ hWb hmk1 l6 hin (by simp;omega) (by omega);refine ax.any (by simpa [aX] using hcl) ?_;rintro r h3 ⟨rfl,x2,y2,hW3⟩;simp [-ak,-av,-ai,-AV.solid,-bJ,-bM,MN,e0,e1,e2,e3,e4,e5,e6,e34,e35,e36,ew];exact⟨k+1,by omega,by omega,by omega,x2,y2,by rw [hsu2,zK];exact hW3⟩
  ·obtain rfl:k=(rowOf v s).length:=by omega
   have hall:=OA (v:=v) (t:=t) (n:=n) (path:=p++[s]) (f:=f) (by rw [iZ];exact hst);rw [iZ,←tT] at hall;rw [hall] at hWk hyl;have hE:=hend _ _ _ _ hWk;have ewp:IntKind.i64.wrap (p.length:Int)=(p.length:Int):=aD (by omega) (by omega);simp [-ak,-av,-ai,-AV.solid,-bJ,-bM,-List.map_append,-List.map_set,MN,hWk.all,e0,e1,e2,e3,e4,e5,e6,e34,e35,e36,hxf,hmk1.1,hul,hps,jI,hE.2,ewp];exact⟨_,_,hE.1⟩
theorem I4 (R m:Nat)(v:bg)(t:Bytes)(ok:aU v)(ht:aG v.pts t=true): ∀n,Ja gl h R m v t n
 | 0=>Ex R m v t ok ht 0 fun n' e=>by omega
 | n+1=>Ex R m v t ok ht (n+1) fun n' e=>by
  obtain rfl:n'=n:=by omega
  exact I4 R m v t ok ht n'
def FC (v:bg)(a b:Bytes):AV:= .tup [.ro ((eP v a b).1.map fK),.int .i64 (eP v a b).2]
theorem Bo (l:List (List Bytes)): ∀e∈l.map fK,∀y∈e,y.Data:=by
 intro e he y hy;obtain⟨p,_,rfl⟩:=List.mem_map.1 he;simp [fK] at hy;subst hy;exact .ro _ (mM _)
set_option maxHeartbeats 8000000 in
theorem GQ (n:bg)(a b:Bytes)(hp:n.pts.length≤1000)(hl:n.lks.length≤1000):aa Tryz.prog gl 185 [.agg (dB n),.str a,.str b] h fun x h'=>x=FC (bW n) a b∧h'=h:=by
 refine aa.fresh' (aa.body Tryz.f185 _ mixed Tryz.func185 rfl rfl (by simp [Tryz.ntmps185]) ?_);have ok:=xE n;simp;refine ax.any (nG n hp hl) ?_;rintro x h1 ⟨m,g,rfl,hh1,hmge,hm⟩;generalize bW n=v at*;have hM:wM h1 m v:=⟨hm⟩;have hB: ∃g1,h1=h++g1:=⟨_,by rw [hh1,zK]⟩;clear hh1 hmge;have hbl:=cu hB;have hnl:(bu v).length≤64:=by rw [kJ];exact ok.plen
 simp [aS];refine ax.pure _ (fun _=>Ay v m a b (hM.more _)) ?_;by_cases hq:aG v.pts a=true∧aG v.pts b=true
 ·obtain⟨qa,qb⟩:=hq;have ea:numOf v a=(aV v a:Int):=by rw [numOf,if_pos qa]
  have eb:numOf v b=(aV v b:Int):=by rw [numOf,if_pos qb]
  rw [ea,eb,qa,qb];obtain⟨R,hR⟩: ∃R,R=h1.length:=⟨_,rfl⟩;simp (config := { maxSteps := 2000000 }) [-ak,-av];refine⟨by omega,?_⟩;have hRl:=congrArg (fun k=>k) hR;have hqa:=dD qa;have hqb:=dD qb;obtain⟨H0,hH0⟩: ∃H0,H0=h1++[.cells 3 [aS v m],.cells 1 [[.int .i64 (aV v b)]],.cells 1 [[.nil]],.cells 1 ((List.replicate (bu v).length false).map jI),.cells 1 [[.own (h1.length+3) 0 (bu v).length]],.cells 1 [[.nil]],.cells 1 [[uV h1.length]]]:=⟨_,rfl⟩;have hW0:fI h H0 h1.length m v b (List.replicate (bu v).length false) [] .nil [] .nil:=by
   subst hH0;exact⟨by simp,by simp,by simp,by simp,by simp,by simp,by simp,⟨.inl ⟨rfl,rfl⟩,fun e he=>by simp at he⟩,.nil,fun b off len off' len' e=>by simp at e,aF hB _,by omega⟩
  have hmk0:marked v (List.replicate (bu v).length false) []:=by
   refine⟨by simp,fun s hs=> ?_⟩;rw [List.getElem?_replicate,if_pos (dD hs)];simp
  have hcl:=I4 (gl:=gl) (h:=h) h1.length m v b ok qb 15 a [] (List.replicate (bu v).length false) [] .nil .nil H0 hW0 hmk0 qa (by simp) (by simp) (by simp);have hpe:eP v a b=if 1024<(jA v b 15 [a] []).length then ([],3) else (jA v b 15 [a] [],0):=by unfold eP;rw [if_pos ⟨qa,qb⟩]
  rw [FC,hpe];have hH1:h1++[.cells 3 [aS v m],.cells 1 [[.int .i64 (aV v b)]],.cells 1 [[.nil]],.cells 1 (List.replicate (bu v).length [.bool false]),.cells 1 [[.own (h1.length+3) 0 (bu v).length]],.cells 1 [[.nil]],.cells 1 [[uV h1.length]]]=H0:=by
   rw [hH0,List.map_replicate];rfl
  simp only [aS,uV] at hH1;rw [hH1];refine ax.any hcl ?_;rintro r h3 ⟨rfl,x',y',hW3⟩;have hyf:=hW3.out.rs.fix;have hyl:=hW3.out.rs.len2;by_cases hlim:1024<(jA v b 15 [a] []).length
  ·have hlim':(1024:Int)<(jA v b 15 [a] []).length:=by omega
   rw [if_pos hlim];simp [-ak,-av,-ai,-AV.solid,-bJ,-bM,hW3.all,hyf,hyl,hlim,hlim'];exact⟨hW3.base,.tup' (.cons .nil (.cons (.data _ (by simp)) .nil))⟩
  ·have hlim': ¬(1024:Int)<(jA v b 15 [a] []).length:=by omega
   rw [if_neg hlim];simp [-ak,-av,-ai,-AV.solid,-bJ,-bM,hW3.all,hyf,hyl,hlim,hlim'];exact⟨hW3.base,.tup' (.cons (hW3.out.frz (by omega) (Bo _)) (.cons (.data _ (by simp)) .nil))⟩
 ·have hno:eP v a b=([],16):=by unfold eP;rw [if_neg hq]
  have hq':(aG v.pts a && aG v.pts b)=false:=by
   rw [Bool.and_eq_false_iff];by_cases c:aG v.pts a=true
   ·right
    by_cases c2:aG v.pts b=true
    ·exact absurd ⟨c,c2⟩ hq
    ·simpa using c2
   ·left;simpa using c
  rw [hq'];simp (config := { maxSteps := 5000000 }) [aS];rw [FC,hno];exact⟨aF hB _,.tup' (.cons .nil (.cons (.data _ (by simp)) .nil))⟩
end Go.Proofs.YtkpioblbeiaefaaGreat
namespace Go.Proofs.YtkpioblbeiaefaaGreat
open Go Go.Abs Go.Toll
variable {gl : aM} {h : ae}
section
variable {H H' : ae} {v : bg} {x y z x' y' : AV} {S S' M M' F : List Bytes}
end
section
variable {H H' : ae} {lo : Nat} {v : bg} {x0 x r : AV} {f f' : List (List Bytes)}
end
end Go.Proofs.YtkpioblbeiaefaaGreat
end
section
namespace Go.Proofs.YtkpioblbeiaefaaGreat
open Go Go.Abs Go.Toll
variable {gl : aM} {h : ae}
theorem iR (t:Int):aa Tryz.prog gl 183 [.int .i64 t] h fun x h'=>x= .bool (bE t)∧h'=h:=by
 refine aa.body Tryz.f183 _ mixed Tryz.func183 rfl rfl (by simp [Tryz.ntmps183]) ?_;simp [bE]
theorem vJ (t:aZ)(s:Bytes):(bS (aI t).net s).isSome=aG (aI t).net.pts s:=by rw [QE,Ck]
end Go.Proofs.YtkpioblbeiaefaaGreat
namespace Go.Proofs.YtkpioblbeiaefaaGreat
open Go Go.Abs Go.Toll
variable {gl : aM} {h : ae}
theorem QD {v:bg} (ok:aU v)(a b:Bytes)(s t:Int):xO v a b s t=(aG v.pts a && aG v.pts b && bE s && bE t && decide (uA v a b≤t - s)):=by
 have h:=JQ ok a b;unfold xO ja;by_cases c:uA v a b≤t - s
 ·have:s<t:=by omega
  simp [this,c,Bool.and_assoc]
 ·simp [c]
set_option maxHeartbeats 4000000 in
theorem wG (t:aZ)(a b:aA)(hp:t.net.pts.length≤1000)(hl:t.net.lks.length≤1000)(hs:t.sys.length≤1000):aa Tryz.prog gl 168 [.agg (ay t),.agg (aj a),.agg (aj b)] h fun x h'=>x= .bool (xO (aI t).net a.point b.point a.time b.time)∧h'=h:=by
 refine aa.data (.bool _) (aa.body Tryz.f168 _ mixed Tryz.func168 rfl rfl (by simp [Tryz.ntmps168]) ?_);simp;refine ax.pure _ (fun _=>jE t hp hl hs) ?_;have hv:=jc t;have hvn:=Ck t;have ok:=RH t;have ha:=vJ t a.point;have hb:=vJ t b.point;generalize aI t=v at*;rw [QD ok];simp;refine ax.pure _ (fun _=>jQ v.net a.point (by omega) (by omega)) ?_;rw [ha];generalize (bS v.net a.point).getD I9=P;simp;refine ax.pure _ (fun _=>jQ v.net b.point (by omega) (by omega)) ?_;rw [hb];generalize (bS v.net b.point).getD I9=Q
 cases qa:aG v.net.pts a.point with
 | false=>
  simp;refine ax.pure (.bool true) (fun c=>by cases c) ?_;simp;refine ax.pure (.bool true) (fun c=>by cases c) ?_;simp
 | true=>
  cases qb:aG v.net.pts b.point with
  | false=>
   simp;refine ax.pure (.bool true) (fun c=>by cases c) ?_;simp;refine ax.pure (.bool true) (fun c=>by cases c) ?_;simp
  | true=>
   simp;refine ax.pure _ (fun _=>iR a.time) ?_
   cases qs:bE a.time with
   | false=>
    simp;refine ax.pure (.bool true) (fun c=>by cases c) ?_;simp
   | true=>
    simp;refine ax.pure _ (fun _=>iR b.time) ?_
    cases qt:bE b.time with
    | false=>simp
    | true=>
     have r1:=gV qs;have r2:=gV qt;have ewd:IntKind.i64.wrap (b.time - a.time)=b.time - a.time:=aD (by omega) (by omega);unfold uA;by_cases e:a.point=b.point
     ·simp [e,ewd]
     ·simp [e,ewd];have c1:=fun H:ae=>Aw (gl:=gl) (h:=H) v.net a.point b.point (by omega) (by omega);rw [hvn] at c1;unfold Gt at c1;rcases hbp:l9 v.net a.point b.point with _ | ⟨p,d⟩
      ·rw [hbp] at c1;refine ax.pure _ (fun _=>c1 _) ?_;simp [ewd]
      ·rw [hbp] at c1;refine ax.pure _ (fun _=>c1 _) ?_;simp [ewd]
end Go.Proofs.YtkpioblbeiaefaaGreat
namespace Go.Proofs.YtkpioblbeiaefaaGreat
open Go Go.Abs Go.Toll
variable {gl : aM} {h : ae}
def rF (v:bg)(a b:Bytes)(s t:Int):AV:= .tup [.ro ((bV v a b s t).1.map fK),.int .i64 (bV v a b s t).2]
def mI (v:bg)(L:List (List Bytes))(dt:Int)(i:Nat):List (List Bytes):=(L.take i).filter (tZ v dt)
theorem IA {v:bg} {L:List (List Bytes)} {dt:Int} {i:Nat} {q:List Bytes} (h:L[i]? =some q):mI v L dt (i+1)=if tZ v dt q=true then mI v L dt i++[q] else mI v L dt i:=by
 rw [mI,zM,h,Option.toList_some,List.filter_append,mI];by_cases c:tZ v dt q=true
 ·rw [if_pos c,List.filter_cons_of_pos c];rfl
 ·rw [if_neg c,List.filter_cons_of_neg c];simp
theorem Kg (v:bg)(L:List (List Bytes))(dt:Int):mI v L dt L.length=L.filter (tZ v dt):=by rw [mI,List.take_length]
theorem Kh (v:bg)(L:List (List Bytes))(dt:Int)(i:Nat):(mI v L dt i).length≤i:=Nat.le_trans (List.length_filter_le _ _) (by simp;omega)
theorem IB {v:bg} {a b:Bytes} {s t:Int} (h:(aG v.pts a && aG v.pts b)=false):bV v a b s t=([],16):=by rw [bV,if_pos h]
theorem uN {v:bg} {a b:Bytes} {s t:Int} (h:(aG v.pts a && aG v.pts b)=true)(h2:ja s t=false):bV v a b s t=([],12):=by rw [bV,if_neg (by rw [h];simp),if_pos h2]
theorem Ng {v:bg} {a b:Bytes} {s t:Int} (h:(aG v.pts a && aG v.pts b)=true)(h2:ja s t=true)(h3:(eP v a b).2≠0):bV v a b s t=([],(eP v a b).2):=by
 rw [bV,if_neg (by rw [h];simp),if_neg (by rw [h2];simp),if_pos h3]
theorem PI {v:bg} {a b:Bytes} {s t:Int} (h:(aG v.pts a && aG v.pts b)=true)(h2:ja s t=true)(h3:(eP v a b).2=0):bV v a b s t=if (eP v a b).1.filter (tZ v (t - s))=[] then ([],21) else ((eP v a b).1.filter (tZ v (t - s)),0):=by
 rw [bV,if_neg (by rw [h];simp),if_neg (by rw [h2];simp),if_neg (by rw [h3];simp)];rfl
theorem eZ {n:Nat} {e:Int}:qd n h (.tup [.nil,.int .i64 e]) (.tup [.ro [],.int .i64 e]):= .tup' (.cons .nil (.cons (.data _ (by simp)) .nil))
set_option maxHeartbeats 8000000 in
theorem Ce (t:aZ)(a b:aA)(hp:t.net.pts.length≤1000)(hl:t.net.lks.length≤1000)(hs:t.sys.length≤1000):aa Tryz.prog gl 169 [.agg (ay t),.agg (aj a),.agg (aj b)] h fun x h'=>x=rF (aI t).net a.point b.point a.time b.time∧h'=h:=by
 refine aa.fresh' (aa.body Tryz.f169 _ mixed Tryz.func169 rfl rfl (by simp [Tryz.ntmps169]) ?_);simp;refine ax.pure _ (fun _=>jE t hp hl hs) ?_;have hv:=jc t;have hvn:=Ck t;have ok:=RH t;have ha:=vJ t a.point;have hb:=vJ t b.point;generalize aI t=v at*;simp;refine ax.pure _ (fun _=>jQ v.net a.point (by omega) (by omega)) ?_;rw [ha];generalize (bS v.net a.point).getD I9=P;simp;refine ax.pure _ (fun _=>jQ v.net b.point (by omega) (by omega)) ?_;rw [hb];generalize (bS v.net b.point).getD I9=Q
 cases qa:aG v.net.pts a.point with
 | false=>
  simp;rw [rF,IB (by rw [qa];rfl)];exact eZ
 | true=>
  cases qb:aG v.net.pts b.point with
  | false=>
   simp;rw [rF,IB (by rw [qa,qb];rfl)];exact eZ
  | true=>
   have hab:(aG v.net.pts a.point && aG v.net.pts b.point)=true:=by rw [qa,qb];rfl
   simp;refine ax.pure _ (fun _=>iR a.time) ?_
   cases qs:bE a.time with
   | false=>
    simp;refine ax.pure (.bool true) (fun c=>by cases c) ?_;simp;rw [rF,uN hab (by unfold ja;rw [qs];rfl)];exact eZ
   | true=>
    simp;refine ax.pure _ (fun _=>iR b.time) ?_
    cases qt:bE b.time with
    | false=>
     simp;rw [rF,uN hab (by unfold ja;rw [qs,qt];rfl)];exact eZ
    | true=>
     by_cases hlt:a.time<b.time
     ·have hla:ja a.time b.time=true:=by unfold ja;rw [qs,qt,decide_eq_true hlt];rfl
      have hnle: ¬b.time≤a.time:=by omega
      have r1:=gV qs;have r2:=gV qt;have ewd:IntKind.i64.wrap (b.time - a.time)=b.time - a.time:=aD (by omega) (by omega);simp [hnle];have c1:=fun H:ae=>GQ (gl:=gl) (h:=H) v.net a.point b.point (by omega) (by omega);have hsp:=(yf ok a.point b.point).1;have herr:=Ng (s:=a.time) (t:=b.time) hab hla;have hof:=PI (s:=a.time) (t:=b.time) hab hla;have hat: ∀(i:Nat) q,(eP v.net a.point b.point).1[i]? =some q→ ∃l s,EA v.net a.point b.point q l s:=fun i q=>LC ok;rw [hvn] at c1;unfold FC at c1;rw [rF];generalize bV v.net a.point b.point a.time b.time=R at*;generalize eP v.net a.point b.point=PE at*;obtain⟨L,E⟩:=PE;simp only at hsp herr hof hat c1;refine ax.pure _ (fun _=>c1 _) ?_;by_cases hE:E=0
      ·subst hE;have hR:=hof rfl;simp;refine aT.up mixed L.length (fun i fr H=>(fr 4= .ptr (h.length+1) 0 0∧fr 5= .ptr (h.length+2) 0 0∧fr 8= .ptr (h.length+3) 0 0)∧fr 75= .ro (L.map fK)∧fr 76= .int .i64 L.length∧fr 77= .int .i64 i∧
         H[h.length+1]? =some (.cells 8 [aj a])∧H[h.length+2]? =some (.cells 8 [aj b])∧H[h.length+3]? =some (.cells 2 [dB v.net])∧(∃g,H=h++g)∧ ∃x,fr 15=x∧Ls 1 (h.length+4) H x ((mI v.net L (b.time - a.time) i).map fK)) 0 (by omega)
        ⟨by simp,by simp,by simp,by simp,by simp,by simp,by simp,by simp,.nil,by simp,by simpa [mI] using Ls.nil⟩ ?_
       rintro i fr H hi ⟨⟨e4,e5,e8⟩,e75,e76,e77,hA,hB2,hN,hB,x,e15,hx⟩;have hxf:=hx.rs.fix;have hil:=Kh v.net L (b.time - a.time) i;have hAa:H[h.length+1]? =some (.cells 8 [aj a])∧h.length+1<H.length∧ ∀hl:h.length+1<H.length,H[h.length+1]= .cells 8 [aj a]:=⟨hA,(zA.1 hA).1,fun _=>(zA.1 hA).2⟩;have hBa:H[h.length+2]? =some (.cells 8 [aj b])∧h.length+2<H.length∧ ∀hl:h.length+2<H.length,H[h.length+2]= .cells 8 [aj b]:=⟨hB2,(zA.1 hB2).1,fun _=>(zA.1 hB2).2⟩;have hNa:H[h.length+3]? =some (.cells 2 [dB v.net])∧h.length+3<H.length∧ ∀hl:h.length+3<H.length,H[h.length+3]= .cells 2 [dB v.net]:=⟨hN,(zA.1 hN).1,fun _=>(zA.1 hN).2⟩;simp only [dm,dB] at hAa hBa hNa;rcases zN i L.length with hlti | hge
       ·obtain⟨q,hq,hq'⟩:=aN hlti;have ew:=aC (i:=i) (by omega);obtain⟨l,w,hpt⟩:=hat i q hq;have hql:=hpt.len;have hsuc:=IA (v:=v.net) (dt:=b.time - a.time) hq;have htk:tZ v.net (b.time - a.time) q=decide (w.1≤b.time - a.time∧b.time - a.time≤w.2):=by unfold tZ;rw [hpt.bnd];simp
        have c2:=fun H:ae=>oQ (gl:=gl) (h:=H) v.net q (by omega) (by omega) (by omega);rw [hvn,hpt.bnd] at c2;simp [-ak,-av,-ai,-AV.solid,e4,e5,e8,e75,e76,e77,hlti,hq,hq',fK,hNa];refine ax.pure _ (fun _=>c2 _) ?_;by_cases d1:w.1≤b.time - a.time
        ·by_cases d2:b.time - a.time≤w.2
         ·rw [htk,if_pos (decide_eq_true ⟨d1,d2⟩)] at hsuc;simp [-ak,-av,-ai,-AV.solid,e4,e5,e8,e75,e76,e77,e15,hlti,hq,hq',fK,hNa,hAa,hBa,ewd,d1,d2,hxf];refine aO (lo:=h.length+4) (n:=1) (es:=(mI v.net L (b.time - a.time) i).map fK) (ys:=[fK q]) (by simpa [fK] using hx.more _) (by simp;omega) (by simp [bF,fK]) (by simp;omega) ?_;intro s1 H1 hs1 hg1 hn1;have hs1f:=hs1.rs.fix;have hB1:=hg1.base h (by omega) (aF hB _);have hk1: ∀b o,b<h.length+4→H[b]? =some o→H1[b]? =some o:=fun b o hb ho=>hg1.keep b o (by rw [zC (aK ho)];exact ho) fun off len e=>by have:=hx.above _ _ _ e;omega
          simp [-ak,-av,-ai,-AV.solid,e4,e5,e8,e75,e76,e77,hs1f,ew];exact⟨i+1,by omega,by omega,by omega,hk1 _ _ (by omega) hA,hk1 _ _ (by omega) hB2,hk1 _ _ (by omega) hN,hB1,by rw [hsuc];simpa using hs1⟩
         ·rw [htk,if_neg (by simp [d2])] at hsuc;simp [-ak,-av,-ai,-AV.solid,e4,e5,e8,e75,e76,e77,e15,hlti,hq,hq',fK,hNa,hAa,hBa,ewd,d1,d2,hxf,ew];exact⟨i+1,by omega,by omega,by omega,hB,by rw [hsuc];exact hx⟩
        ·rw [htk,if_neg (by simp [d1])] at hsuc;simp [-ak,-av,-ai,-AV.solid,e4,e5,e8,e75,e76,e77,e15,hlti,hq,hq',fK,hNa,hAa,hBa,ewd,d1,hxf,ew];exact⟨i+1,by omega,by omega,by omega,hB,by rw [hsuc];exact hx⟩
       ·obtain rfl:i=L.length:=by omega
        rw [Kg] at hx hil;have hxl:=hx.rs.len2;rw [List.length_map] at hxl;generalize L.filter (tZ v.net (b.time - a.time))=O at*;by_cases hO:O=[]
        ·subst hO;rw [if_pos rfl] at hR;simp [-ak,-av,-ai,-AV.solid,e4,e5,e8,e75,e76,e77,e15,hxf,hxl];rw [hR];exact⟨hB,eZ⟩
        ·rw [if_neg hO] at hR;have hOl: ¬(O.length:Int)=0:=by have:=List.length_pos_iff.2 hO;omega
         simp [-ak,-av,-ai,-AV.solid,e4,e5,e8,e75,e76,e77,e15,hxf,hxl,hO,hOl];rw [hR];exact⟨hB,.tup' (.cons (hx.frz (by omega) (Bo _)) (.cons (.data _ (by simp)) .nil))⟩
      ·rw [herr hE];simp [hE];exact eZ
     ·have hle:b.time≤a.time:=by omega
      simp [hle];rw [rF,uN hab (by unfold ja;rw [decide_eq_false hlt];simp)];exact eZ
end Go.Proofs.YtkpioblbeiaefaaGreat
end
