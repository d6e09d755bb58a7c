/- Part 19 of the lemmas below the statements of this seat: GrE. -/
import Derived.Test.YtkpioblbeiaefaaGreatPr18
set_option linter.unusedSectionVars false
set_option linter.unusedVariables false
set_option linter.unusedSimpArgs false
set_option linter.unnecessarySimpa false
set_option maxRecDepth 100000
namespace Go.Proofs.YtkpioblbeiaefaaGreat
open Go Go.Abs Go.Toll
variable {gl : aM} {h : af}
def Eh (n:Int):List AV:=[.int .i64 n]
structure rC (h H:af)(p m:Nat)(v:bn)(far:List Int)(x:AV)(Q:List Bytes):Prop where
 rr:H[p]? =some (.cells 3 [aU v m])
 dist:H[p+1]? =some (.cells 1 (far.map Eh))
 queue:Oq 1 (p+2) H x (Q.map (uI v))
 base: ∃g,H=h++g
section
variable {H H' : af} {p m : Nat} {v : bn} {far : List Int} {x : AV} {Q : List Bytes}
theorem rC.all (b:rC h H p m v far x Q):(H[p]? =some (.cells 3 [aU v m])∧p<H.length∧ ∀hl:p<H.length,H[p]= .cells 3 [aU v m])∧
  H[p+1]? =some (.cells 1 (far.map Eh))∧p+1<H.length∧ ∀hl:p+1<H.length,H[p+1]= .cells 1 (far.map Eh):=
 ⟨⟨b.rr,(zA.1 b.rr).1,fun _=>(zA.1 b.rr).2⟩,b.dist,(zA.1 b.dist).1,fun _=>(zA.1 b.dist).2⟩
theorem rC.more (b:rC h H p m v far x Q)(g:af):rC h (H++g) p m v far x Q:=
 ⟨by rw [zC b.all.1.2.1];exact b.rr,by rw [zC b.all.2.2.1];exact b.dist,b.queue.more g,aI b.base g⟩
theorem rC.set (b:rC h H p m v far x Q)(hp:h.length≤p)(far':List Int):rC h (H.set (p+1) (.cells 1 (far'.map Eh))) p m v far' x Q:=
 ⟨by rw [zJ (by omega)];exact b.rr,zI b.all.2.2.1,b.queue.put (by omega),dA b.base (by omega) _⟩
theorem rC.push (b:rC h H p m v far x Q) {lo:Nat} {x':AV} {Q':List Bytes} (g:Grow lo H x H')(hl:h.length≤lo)(q:Oq 1 (p+2) H' x' (Q'.map (uI v))):rC h H' p m v far x' Q':=
 ⟨g.keep _ _ b.rr fun off len e=>by have:=b.queue.above _ _ _ e;omega,g.keep _ _ b.dist fun off len e=>by have:=b.queue.above _ _ _ e;omega,q,g.base h hl b.base⟩
theorem rC.tail (b:rC h H p m v far x Q) {x':AV} {Q':List Bytes} (q:Oq 1 (p+2) H x' (Q'.map (uI v))):rC h H p m v far x' Q':=⟨b.rr,b.dist,q,b.base⟩
end
theorem Rs.based {n:Nat} {h H:af} {x:AV} {es:List (List AV)} (r:Rs n h x es)(hb: ∃g,H=h++g):Rs n H x es:=by
 obtain⟨g,rfl⟩:=hb;exact r.append g
set_option maxHeartbeats 8000000 in
theorem La (v:bn)(m:Nat)(p:List Bytes)(y t:Bytes)(us:List Bool)(xu:AV)(ok:aV v)(hy:aF v.pts y=true)(ht:aF v.pts t=true)(hx:Rs 1 h xu (us.map kE))(hul:us.length=(bB v).length)(hus: ∀s,aF v.pts s=true→us[aZ v s]? =some (decide (s∈p))):
  aa Tryz.prog gl 198 [.agg (aU v m),.int .i64 (aZ v y),.int .i64 (aZ v t),xu] h fun r h'=>(∃n,r= .int .i64 n∧TT v p y t n)∧h'=h:=by
 refine aa.freshR (aa.body Tryz.f198 _ mixed Tryz.func198 rfl rfl (by simp [Tryz.ntmps198]) ?_);have hnl:(bB v).length≤64:=by rw [lI];exact ok.plen
 have hlk:=ok.llen;obtain⟨q,hq⟩: ∃q,q=h.length:=⟨_,rfl⟩;have hxf:=hx.fix;simp [aU];refine⟨by omega,?_⟩;have hH0:rC h (h++[.cells 3 [aU v m],.cells 1 ((List.replicate (bB v).length (0:Int)).map Eh),.cells 1 [uI v y]]) q m v (List.replicate (bB v).length 0) (.own (q+2) 0 1) [y]:=
  ⟨by simp [hq],by simp [hq],Ls.oq (Ls.own (es:=[uI v y]) (by simp [hq]) (by omega) (by simp) (by simp [uI])),_,rfl⟩
 rw [List.map_replicate] at hH0;rw [←hq];have hst:=Hop.first (v:=v) (p:=p) (y:=y) (t:=t) ok hy;generalize hf0:List.replicate (bB v).length (0:Int)=far0 at*;refine aT.down mixed (fun M fr H=>fr 1= .int .i64 (aZ v y)∧fr 2= .int .i64 (aZ v t)∧fr 3=xu∧fr 4= .ptr q 0 0∧fr 9= .own (q+1) 0 (bB v).length∧ ∃x Q far,fr 10=x∧rC h H q m v far x Q∧Hop v p y t far Q∧M=far.count 0+Q.length∧M≤100) (far0.count 0+1)
  ⟨by simp,by simp,by simp,by simp,by simp,.own (q+2) 0 1,[y],far0,by simp,by simpa [Eh,uI,aU] using hH0,hst,by simp,by have:=List.count_le_length (a:=(0:Int)) (l:=far0);have:=hst.len;omega⟩ ?_
 clear hH0 hst;rintro M fr H ⟨e1,e2,e3,e4,e9,x,Q,far,e10,hH,hh,rfl,hM100⟩;have hqf:=hH.queue.rs.fix
 cases Q with
 | nil=>
  simp [-aj,-au,-ah,-AV.solid,-bA,-bD,e10,hqf,hH.queue.rs.len2];exact⟨hH.base,_,.data _ (.int _ _),-1,rfl,.inl ⟨rfl,hh.none ok hy ht⟩⟩
 | cons u Q=>
  obtain⟨u1,u2⟩:=hh.qs u List.mem_cons_self;have hsh:=hh.head_short ok hy;have rx:=Rs.ix Tryz.prog hH.queue.rs 0 (by omega) (y:=uI v u) (by simp);have htl:=hH.queue.tail Tryz.prog (by omega);have hfl:=hh.len;have hgu:=BF hfl u1;have hgu':=(zA.1 hgu).2;have hpu:=dG u1;by_cases hut:u=t
  ·subst hut;have hfd:=hh.found ok hy;simp [-aj,-au,-ah,-AV.solid,-bA,-bD,e1,e2,e3,e4,e9,e10,hqf,hH.queue.rs.len2,rx,htl,uI,hH.all,Eh,hgu,hgu',hfl,hpu];exact⟨hH.base,_,.data _ (.int _ _),_,rfl,.inr ⟨hsh.1,hsh.2,hfd⟩⟩
  ·have hne: ¬(aZ v u:Int)=aZ v t:=fun e=>hut (gT ok u1 ht (by omega));have hrow:=mX (fQ u1);have hrl:=(zA.1 hrow).1;have hrow':=(zA.1 hrow).2;have hrlen:=pM v u;have hH1:=hH.tail htl.1;have hm:=hh.pop hut;simp [-aj,-au,-ah,-AV.solid,-bA,-bD,e1,e2,e3,e4,e9,e10,hqf,hH.queue.rs.len2,rx,htl,uI,aU,hH.all,hne,hrow,hrow',hrl];refine aT.up mixed (rowOf v u).length (fun k fr H=>fr 1= .int .i64 (aZ v y)∧fr 2= .int .i64 (aZ v t)∧fr 3=xu∧fr 4= .ptr q 0 0∧fr 9= .own (q+1) 0 (bB v).length∧fr 11= .int .i64 (aZ v u)∧fr 39= .ro ((rowOf v u).map bH)∧fr 40= .int .i64 (rowOf v u).length∧fr 41= .int .i64 k∧
     ∃x Q' far',fr 10=x∧rC h H q m v far' x Q'∧D8 v p y t far' Q' u k∧0≤dw v far' u∧dw v far' u≤63∧far'.count 0+Q'.length=far.count 0+Q.length) 0 (by omega)
    ⟨by simp [e1],by simp [e2],by simp [e3],by simp [e4],by simp [e9],by simp,by simp,by simp,by simp,_,Q,far,by simp,hH1,hm,hsh.1,hsh.2,rfl⟩ ?_
   clear hH hh hH1 hm e1 e2 e3 e4 e9 e10 hqf rx htl hgu hgu' hfl u2 hsh;rintro k fr H hk ⟨e1,e2,e3,e4,e9,e11,e39,e40,e41,x,Q',far',e10,hH,hm,hu0,hu63,hc⟩;have hqf:=hH.queue.rs.fix;have hfl:=hm.len;rcases zN k (rowOf v u).length with hlt | hge
   ·obtain⟨r,hr,hr'⟩:=aJ hlt;obtain⟨l,l1,rfl,l3,l4,l5,l6⟩:=Dj ok hr;have ew:=aB (i:=k) (by omega);have hgd:=BF hfl l6;have hgd':=(zA.1 hgd).2;have hpd:=dG l6;have hgu:=BF hfl u1;have hgu':=(zA.1 hgu).2;have hud:=hus l.dst l6;have hud':=(zA.1 hud).2;have hxH:=(Rs.based hx hH.base).append [.cells 3 [bH (bi v l)]];have rx:=Rs.ix Tryz.prog hxH (aZ v l.dst) (by omega) (y:=[.bool (decide (l.dst∈p))]) (by simp [hud,kE]);have hH1:=hH.more [.cells 3 [bH (bi v l)]];simp only [Bu,bi] at rx;have hdy:(aZ v l.dst:Int)=aZ v y↔l.dst=y:=⟨fun e=>gT ok l6 hy (by omega),fun e=>by rw [e]⟩;have hdy':aZ v l.dst=aZ v y↔l.dst=y:=⟨fun e=>gT ok l6 hy e,fun e=>by rw [e]⟩;have ewf:IntKind.i64.wrap (dw v far' u+1)=dw v far' u+1:=aC (by omega) (by omega);simp [-aj,-au,-ah,-AV.solid,-bA,-bD,e1,e2,e3,e4,e9,e10,e11,e39,e40,e41,hlt,hr,hr',bi,hH.all,hgd,hgd',hfl,hpd,Eh,hxf,rx,hdy,hdy',hgu,hgu',hpu,ew,ewf,hqf];refine⟨fun c1 c2 c3=>⟨by decide,?_⟩,fun cc=>⟨k+1,by omega,by omega,by omega,Q',far',hH1,hm.old l1 ?_,hu0,hu63,hc⟩⟩
    ·have hS:=(hH.set (by omega) (far'.set (aZ v l.dst) (dw v far' u+1))).more [.cells 3 [bH (bi v l)],.cells 1 [uI v l.dst]];rw [List.map_set] at hS;have hQl:Q'.length≤100:=by simp at hM100;omega
     refine EH (lo:=q+2) (n:=1) (es:=Q'.map (uI v)) (ys:=[uI v l.dst]) (by simpa [uI,Eh,bi] using hS.queue) (by have:=hH.all;simp;omega) (by simp [bE,uI]) (by simp;omega) ?_;intro s1 H1 hs1 hg1 _;have hs1f:=hs1.rs.fix;have hHn:=hS.push (x':=s1) (Q':=Q'++[l.dst]) (by simpa [uI,Eh,bi] using hg1) (by omega) (by simpa using hs1.oq);have hmn:=hm.new ok l1 c1 c2 c3 hy;have hfu:dw v (far'.set (aZ v l.dst) (dw v far' u+1)) u=dw v far' u:=by
      rw [I4 ok hfl l6 u1,if_neg];rintro rfl;rcases hm.at'.2.1 with e | e
      ·exact c2 e
      ·exact e c1
     have hz:=PO (far:=far') (i:=aZ v l.dst) (n:=dw v far' u+1) (by rw [hgd,c1]) (by omega);simp [-aj,-au,-ah,-AV.solid,-bA,-bD,e1,e2,e3,e4,e9,e11,e39,e40,e41,hs1f,ew];exact⟨k+1,by omega,by omega,by omega,Q'++[l.dst],_,hHn,hmn,by rw [hfu];exact hu0,by rw [hfu];exact hu63,by simp;omega⟩
    ·by_cases c1:dw v far' l.dst=0
     ·by_cases c2:l.dst=y
      ·exact .inr (.inl c2)
      ·exact .inl (List.mem_append_left _ (cc c1 c2))
     ·exact .inr (.inr c1)
   ·obtain rfl:k=(rowOf v u).length:=by omega
    rw [u6] at hm;have hh1:=hm.finish ok;simp [-aj,-au,-ah,-AV.solid,e1,e2,e3,e4,e9,e10,e11,e39,e40,e41];exact⟨far'.count 0+Q'.length,by omega,Q',far',hH,hh1,rfl,by simp at hM100;omega⟩
end Go.Proofs.YtkpioblbeiaefaaGreat
namespace Go.Proofs.YtkpioblbeiaefaaGreat
open Go Go.Abs Go.Toll
variable {gl : aM} {h : af}
theorem Oq.isOwn {n lo:Nat} {H:af} {x:AV} {es:List (List AV)} (r:Oq n lo H x es)(h:es≠[]): ∃b off all,x= .own b off es.length∧lo≤b∧H[b]? =some (.cells n all)∧off+es.length≤all.length∧(all.drop off).take es.length=es:=by
 rcases r.1 with⟨_,e⟩ | h1
 ·exact absurd e h
 ·exact h1
theorem Ez (p:List Bytes)(x:AV)(lo:Nat)(hne:p≠[])(hx:Oq 1 lo h x (p.map aO))(hl:p.length≤1000000):aa Tryz.prog gl 197 [x] h fun v h'=>v= .ro (p.map aO)∧h'=h:=by
 refine aa.fresh' (aa.body Tryz.f197 _ mixed Tryz.func197 rfl rfl (by simp [Tryz.ntmps197]) ?_);obtain⟨b,off,all,rfl,h1,h2,h3,h4⟩:=Oq.isOwn hx (by simpa using hne);obtain⟨hb,hb'⟩:=zA.1 h2;have hpn:=AP p;simp [h2,hb',hb];rw [List.length_map] at h3 h4;have hm:min p.length (all.length - off)=p.length:=by omega
 rw [h4,hm];refine⟨⟨h3,hpn,by omega,by omega⟩,?_⟩;have:=pW.ownD (n:=h.length) (b:=h.length+1) (m:=1) (off:=0) (len:=p.length) (es:=p.map aO) (es':=p.map aO) (h:=h++[.dead,.cells 1 (p.map aO)]) (by simp) (by omega) (by simp) (by rw [List.drop_zero,zG (by simp)]) (gM p);exact this
def gq (p:List Bytes):List AV:=[.ro (p.map aO)]
def wF (R:Nat):AV:= .fn (.func 196) [] [.ptr (R+5) 0 0,.ptr R 0 0,.ptr (R+4) 0 0,.ptr (R+1) 0 0,.ptr (R+2) 0 0,.ptr (R+6) 0 0]
structure gm (h H:af)(R m:Nat)(v:bn)(t:Bytes)(us:List Bool)(p:List Bytes)(x:AV)(f:List (List Bytes))(y:AV):Prop where
 roads:H[R]? =some (.cells 3 [aU v m])
 goal:H[R+1]? =some (.cells 1 [[.int .i64 (aZ v t)]])
 outB:H[R+2]? =some (.cells 1 [[y]])
 marks:H[R+3]? =some (.cells 1 (us.map kE))
 usedB:H[R+4]? =some (.cells 1 [[.own (R+3) 0 (bB v).length]])
 pathB:H[R+5]? =some (.cells 1 [[x]])
 walkB:H[R+6]? =some (.cells 1 [[wF R]])
 path:Oq 1 (R+7) H x (p.map aO)
 out:Ls 1 (R+7) H y (f.map gq)
 apart: ∀b off len off' len',x= .own b off len→y≠ .own b off' len'
 base: ∃g,H=h++g
 ple:h.length≤R
section
variable {H H' : af} {R m : Nat} {v : bn} {t : Bytes} {us us' : List Bool} {p p' : List Bytes} {x x' y y' : AV} {f f' : List (List Bytes)}
theorem gm.keep (w:gm h H R m v t us p x f y)(hk: ∀b o,b<R+7→H[b]? =some o→H'[b]? =some o)(hx:Oq 1 (R+7) H' x (p.map aO))(hy:Ls 1 (R+7) H' y (f.map gq))(hb: ∃g,H'=h++g):gm h H' R m v t us p x f y:=
 ⟨hk _ _ (by omega) w.roads,hk _ _ (by omega) w.goal,hk _ _ (by omega) w.outB,hk _ _ (by omega) w.marks,hk _ _ (by omega) w.usedB,hk _ _ (by omega) w.pathB,hk _ _ (by omega) w.walkB,hx,hy,w.apart,hb,w.ple⟩
theorem gm.more (w:gm h H R m v t us p x f y)(g:af):gm h (H++g) R m v t us p x f y:=
 w.keep (fun b o _ ho=>by rw [zC (zA.1 ho).1];exact ho) (w.path.more g) (w.out.more g) (aI w.base g)
theorem gm.all (w:gm h H R m v t us p x f y):(H[R]? =some (.cells 3 [aU v m])∧H[R+1]? =some (.cells 1 [[.int .i64 (aZ v t)]])∧H[R+2]? =some (.cells 1 [[y]])∧H[R+3]? =some (.cells 1 (us.map kE))∧H[R+4]? =some (.cells 1 [[.own (R+3) 0 (bB v).length]])∧H[R+5]? =some (.cells 1 [[x]])∧H[R+6]? =some (.cells 1 [[wF R]]))∧
  (R<H.length∧R+1<H.length∧R+2<H.length∧R+3<H.length∧R+4<H.length∧R+5<H.length∧R+6<H.length)∧
  ((∀hl:R<H.length,H[R]= .cells 3 [aU v m])∧(∀hl:R+1<H.length,H[R+1]= .cells 1 [[.int .i64 (aZ v t)]])∧(∀hl:R+2<H.length,H[R+2]= .cells 1 [[y]])∧(∀hl:R+3<H.length,H[R+3]= .cells 1 (us.map kE))∧(∀hl:R+4<H.length,H[R+4]= .cells 1 [[.own (R+3) 0 (bB v).length]])∧(∀hl:R+5<H.length,H[R+5]= .cells 1 [[x]])∧ ∀hl:R+6<H.length,H[R+6]= .cells 1 [[wF R]]):=by
 have hl:=(zA.1 w.walkB).1;exact⟨⟨w.roads,w.goal,w.outB,w.marks,w.usedB,w.pathB,w.walkB⟩,⟨by omega,by omega,by omega,by omega,by omega,by omega,hl⟩,fun _=>(zA.1 w.roads).2,fun _=>(zA.1 w.goal).2,fun _=>(zA.1 w.outB).2,fun _=>(zA.1 w.marks).2,fun _=>(zA.1 w.usedB).2,fun _=>(zA.1 w.pathB).2,fun _=>(zA.1 w.walkB).2⟩
theorem gm.grow (w:gm h H R m v t us p x f y) {lo:Nat} (g:Grow lo H x H')(hlo:h.length≤lo)(q:Ls 1 (R+7) H' x' (p'.map aO))(hn: ∀b off len,x'= .own b off len→H.length≤b):gm h (H'.set (R+5) (.cells 1 [[x']])) R m v t us p' x' f y:=by
 have hx:=w.path.above;have k: ∀b o,b<R+7→b≠R+5→H[b]? =some o→(H'.set (R+5) (.cells 1 [[x']]))[b]? =some o:=fun b o hb hne ho=>by
  rw [zJ (Ne.symm hne)];exact g.keep b o ho fun off len e=>by have:=hx _ _ _ e;omega
 have hl:=g.len;have hw:=w.all.2.1;have hb:=g.base h hlo w.base;refine⟨k _ _ (by omega) (by omega) w.roads,k _ _ (by omega) (by omega) w.goal,k _ _ (by omega) (by omega) w.outB,k _ _ (by omega) (by omega) w.marks,k _ _ (by omega) (by omega) w.usedB,zI (by omega),k _ _ (by omega) (by omega) w.walkB,(q.put (by omega)).oq,?_,fun b off len off' len' e e'=> ?_,dA hb (by have:=w.ple;omega) _,w.ple⟩
 ·exact (w.out.grow g fun b e _ off len e'=>w.apart _ _ _ _ _ e' e).put (by omega)
 ·have h1:=hn _ _ _ e;have h2:=w.out.rs.lt e';omega
theorem gm.mark (w:gm h H R m v t us p x f y)(us':List Bool):gm h (H.set (R+3) (.cells 1 (us'.map kE))) R m v t us' p x f y:=by
 have k: ∀b o,b≠R+3→H[b]? =some o→(H.set (R+3) (.cells 1 (us'.map kE)))[b]? =some o:=fun b o hne ho=>by rw [zJ (Ne.symm hne)];exact ho
 exact⟨k _ _ (by omega) w.roads,k _ _ (by omega) w.goal,k _ _ (by omega) w.outB,zI w.all.2.1.2.2.2.1,k _ _ (by omega) w.usedB,k _ _ (by omega) w.pathB,k _ _ (by omega) w.walkB,w.path.put (by omega),w.out.put (by omega),w.apart,dA w.base (by have:=w.ple;omega) _,w.ple⟩
theorem gm.add (w:gm h H R m v t us p x f y) {lo:Nat} (g:Grow lo H y H')(hlo:h.length≤lo)(q:Ls 1 (R+7) H' y' (f'.map gq))(hn: ∀b off len,y'= .own b off len→H.length≤b):gm h (H'.set (R+2) (.cells 1 [[y']])) R m v t us p x f' y':=by
 have hy:=w.out.above;have k: ∀b o,b<R+7→b≠R+2→H[b]? =some o→(H'.set (R+2) (.cells 1 [[y']]))[b]? =some o:=fun b o hb hne ho=>by
  rw [zJ (Ne.symm hne)];exact g.keep b o ho fun off len e=>by have:=hy _ _ _ e;omega
 have hl:=g.len;have hw:=w.all.2.1;have hb:=g.base h hlo w.base;refine⟨k _ _ (by omega) (by omega) w.roads,k _ _ (by omega) (by omega) w.goal,zI (by omega),k _ _ (by omega) (by omega) w.marks,k _ _ (by omega) (by omega) w.usedB,k _ _ (by omega) (by omega) w.pathB,k _ _ (by omega) (by omega) w.walkB,?_,q.put (by omega),fun b off len off' len' e e'=> ?_,dA hb (by have:=w.ple;omega) _,w.ple⟩
 ·refine (w.path.keep fun b off len o e ho=> ?_);rw [zJ (by have:=w.path.above _ _ _ e;omega)];exact g.keep b o ho fun off' len' e'=>w.apart _ _ _ _ _ e e'
 ·have h1:=hn _ _ _ e';have h2:=w.path.rs.lt e;omega
theorem gm.cut (w:gm h H R m v t us p x f y)(q:Oq 1 (R+7) H x' (p'.map aO))(hs: ∀b off len,x'= .own b off len→ ∃off' len',x= .own b off' len'):gm h (H.set (R+5) (.cells 1 [[x']])) R m v t us p' x' f y:=by
 have k: ∀b o,b≠R+5→H[b]? =some o→(H.set (R+5) (.cells 1 [[x']]))[b]? =some o:=fun b o hne ho=>by rw [zJ (Ne.symm hne)];exact ho
 refine⟨k _ _ (by omega) w.roads,k _ _ (by omega) w.goal,k _ _ (by omega) w.outB,k _ _ (by omega) w.marks,k _ _ (by omega) w.usedB,zI w.all.2.1.2.2.2.2.2.1,k _ _ (by omega) w.walkB,q.put (by omega),w.out.put (by omega),fun b off len off' len' e e'=> ?_,dA w.base (by have:=w.ple;omega) _,w.ple⟩;obtain⟨o1,l1,e1⟩:=hs b off len e;exact w.apart _ _ _ _ _ e1 e'
end
def marked (v:bn)(us:List Bool)(p:List Bytes):Prop:=us.length=(bB v).length∧ ∀s,aF v.pts s=true→us[aZ v s]? =some (decide (s∈p))
theorem marked.push {v:bn} (ok:aV v) {us:List Bool} {p:List Bytes} {s:Bytes} (hm:marked v us p)(hs:aF v.pts s=true):marked v (us.set (aZ v s) true) (p++[s]):=by
 refine⟨by rw [List.length_set];exact hm.1,fun z hz=> ?_⟩;by_cases e:z=s
 ·subst e;rw [zI (by rw [hm.1];exact dG hz)];simp
 ·rw [zJ (fun h=>e (gT ok hs hz h).symm),hm.2 z hz];simp [e]
def KF (gl:aM)(h:af)(R m:Nat)(v:bn)(t:Bytes)(n:Nat):Prop:=
 ∀(s:Bytes) (p:List Bytes) (us:List Bool) (f:List (List Bytes)) (x y:AV) (H:af),gm h H R m v t us p x f y→marked v us p→aF v.pts s=true→s∉p→p.length+1+n=16→f.length≤1024→
  aa Tryz.prog gl 196 [.int .i64 (aZ v s),.ptr (R+5) 0 0,.ptr R 0 0,.ptr (R+4) 0 0,.ptr (R+1) 0 0,.ptr (R+2) 0 0,.ptr (R+6) 0 0] H fun r H'=>r= .tup []∧ ∃x' y',gm h H' R m v t us p x' (jT v t n (p++[s]) f) y'
def OA:Nat→Option (List (Nat×Nat)):=fun i=>if i=0 then some [(0,7)] else if i=3 then some [(0,4)] else none
set_option maxHeartbeats 8000000 in
theorem F9 (R m:Nat)(v:bn)(t:Bytes)(ok:aV v)(ht:aF v.pts t=true)(n:Nat)(ih: ∀n',n'+1=n→KF gl h R m v t n'):KF gl h R m v t n:=by
 intro s p us f x y H hW hmk hs hsp hn hfl;have hps:=dG hs;have hpg:=fQ hs;have hpg':=(zA.1 hpg).2;have hnl:(bB v).length≤64:=by rw [lI];exact ok.plen
 have hlk:=ok.llen;have hpf:=hW.path.rs.fix;refine aa.bodyL OA Tryz.f196 _ mixed Tryz.func196 rfl rfl (by simp [Tryz.ntmps196]) ?_;simp [-aj,-au,-ah,-AV.solid,-bA,-bD,OA,hW.all,aU,hps,hpg,hpg',aO,hpf];refine⟨by decide,?_⟩;refine EH (lo:=R+7) (n:=1) (es:=p.map aO) (ys:=[aO s]) (by simpa [aO] using hW.path.more [.cells 1 [aO s]]) (by have:=hW.all.2.1;simp;omega) (by simp [bE,aO]) (by simp;omega) ?_;intro s1 H1 hs1 hg1 hn1;have hs1f:=hs1.rs.fix;have hl1:=hg1.len;have hW1:=(hW.more [.cells 1 [aO s]]).grow (x':=s1) (p':=p++[s]) (by simpa [aO] using hg1) (by have:=hW.ple;omega) (by simpa using hs1) (by simpa [aO] using hn1);have hk1: ∀b o,b<R+7→H[b]? =some o→H1[b]? =some o:=fun b o hb ho=>hg1.keep b o (by rw [zC (zA.1 ho).1];exact ho) fun off len e=>by have:=hW.path.above _ _ _ e;omega
 have hW0:(H1[R+5]? =some (.cells 1 [[x]])∧R+5<H1.length∧ ∀hl:R+5<H1.length,H1[R+5]= .cells 1 [[x]]):=⟨hk1 _ _ (by omega) hW.pathB,(zA.1 (hk1 _ _ (by omega) hW.pathB)).1,fun _=>(zA.1 (hk1 _ _ (by omega) hW.pathB)).2⟩;have hB: ∀b o,b<R+7→H[b]? =some o→H1[b]? =some o∧b<H1.length∧ ∀hl:b<H1.length,H1[b]=o:=fun b o hb ho=>⟨hk1 b o hb ho,(zA.1 (hk1 b o hb ho)).1,fun _=>(zA.1 (hk1 b o hb ho)).2⟩;have hB4:=hB _ _ (by omega) hW.usedB;have hB3:=hB _ _ (by omega) hW.marks;have hB2:=hB _ _ (by omega) hW.outB;have hB1:=hB _ _ (by omega) hW.goal;have hB0:=hB _ _ (by omega) hW.roads;have hul:=hmk.1;have hyf:=hW.out.rs.fix;have hmk1:=hmk.push ok hs;have hW2:=hW1.mark (us.set (aZ v s) true);have hsu:us[aZ v s]? =some false:=by rw [hmk.2 s hs];simp [hsp]
 have hback:(us.set (aZ v s) true).set (aZ v s) false=us:=by
  rw [List.set_set];refine List.ext_getElem? fun i=> ?_;by_cases e:aZ v s=i
  ·subst e;rw [zI (by rw [hul];exact hps),hsu]
  ·rw [zJ e]
 have hend: ∀(Hn:af) (x' y':AV) (f':List (List Bytes)),gm h Hn R m v t (us.set (aZ v s) true) (p++[s]) x' f' y'→
   gm h ((Hn.set (R+3) (.cells 1 (((us.set (aZ v s) true).map kE).set (aZ v s) [.bool false]))).set (R+5) (.cells 1 [[bA x' none (some (p.length:Int))]])) R m v t us p (bA x' none (some (p.length:Int))) f' y'∧bD Tryz.prog (Hn.set (R+3) (.cells 1 (((us.set (aZ v s) true).map kE).set (aZ v s) [.bool false]))) (.slice 9) x' none (some (p.length:Int))∧(bA x' none (some (p.length:Int))).core=bA x' none (some (p.length:Int))∧(bA x' none (some (p.length:Int))).gd=true∧(bA x' none (some (p.length:Int))).solid=true∧ah (bA x' none (some (p.length:Int)))=[bA x' none (some (p.length:Int))]∧
   (alen (Hn.set (R+3) (.cells 1 (((us.set (aZ v s) true).map kE).set (aZ v s) [.bool false]))) x'=(p.length:Int)+1∧lenOk (Hn.set (R+3) (.cells 1 (((us.set (aZ v s) true).map kE).set (aZ v s) [.bool false]))) (.slice 9) x'):=by
  intro Hn x' y' f' w;have w1:=w.mark ((us.set (aZ v s) true).set (aZ v s) false);rw [List.map_set,show kE false=[AV.bool false] from rfl] at w1;have hc:=w1.path.rs.cut Tryz.prog (by omega) none (some (p.length:Int)) (by simp [ib,xm,fG];omega);have hln:=w1.path.rs.len2;rw [show (((p++[s]).map aO).length:Int)=(p.length:Int)+1 by simp] at hln;obtain⟨b,off,all,rfl,q1,q2,q3,q4⟩:=Oq.isOwn w1.path (by simp);have e1:bA (.own b off ((p++[s]).map aO).length) none (some (p.length:Int))= .own b off p.length:=by simp [bA,fG]
  rw [e1];have w2:=w1.cut (x':= .own b off p.length) (p':=p) ⟨.inr ⟨b,off,all,by simp,q1,q2,by simp at q3 ⊢;omega,?_⟩,AP p⟩ (fun b' off' len' e=>by injection e with e1 e2 e3;exact⟨_,_,by rw [e1]⟩)
  ·rw [hback] at w2;exact⟨w2,hc.2 9 (by simp) (by simp),rfl,rfl,rfl,rfl,hln.1,(hln.2 9).2 trivial⟩
  ·rw [List.length_map];have:=congrArg (List.take p.length) q4;rw [List.take_take,List.length_map,List.length_append,List.length_singleton,Nat.min_eq_left (by omega),List.map_append,List.take_left' (by simp)] at this;exact this
 by_cases hst:s=t
 ·subst hst;have hleaf:=Ob (v:=v) (n:=n) (f:=f) (jA p s);simp [-aj,-au,-ah,-AV.solid,-bA,-bD,OA,hW.all,hW0,hs1f,hpf,hB4,hB3,hB2,hB1,hps,hul,kE];rw [List.map_set,show kE true=[AV.bool true] from rfl] at hW2;generalize (H1.set (R+5) (.cells 1 [[s1]])).set (R+3) (.cells 1 ((us.map kE).set (aZ v s) [.bool true]))=H3 at hW2 ⊢;refine⟨by decide,ax.pure _ (fun _=>Ez (p++[s]) s1 (R+7) (by simp) hW2.path (by simp;omega)) ?_⟩;simp [-aj,-au,-ah,-AV.solid,-bA,-bD,-List.map_append,OA,hW2.all,hs1f,hyf];refine aN (lo:=R+7) (n:=1) (es:=f.map gq) (ys:=[gq (p++[s])]) (by simpa [gq] using hW2.out.more [.cells 1 [gq (p++[s])]]) (by have:=hW2.all.2.1;simp;omega) (by simp [bE,gq]) (by simp;omega) ?_;intro y1 H4 hy1 hg4 hn4;have hy1f:=hy1.rs.fix;have hW4:=(hW2.more [.cells 1 [gq (p++[s])]]).add (y':=y1) (f':=f++[p++[s]]) (by simpa [gq] using hg4) (by have:=hW.ple;omega) (by simpa using hy1) (by simpa [gq] using hn4);have hk4: ∀b o,b<R+7→H3[b]? =some o→H4[b]? =some o:=fun b o hb ho=>hg4.keep b o (by rw [zC (zA.1 ho).1];exact ho) fun off len e=>by have:=hW2.out.above _ _ _ e;omega
  have hC: ∀b o,b<R+7→H3[b]? =some o→H4[b]? =some o∧b<H4.length∧ ∀hl:b<H4.length,H4[b]=o:=fun b o hb ho=>⟨hk4 b o hb ho,(zA.1 (hk4 b o hb ho)).1,fun _=>(zA.1 (hk4 b o hb ho)).2⟩;have hC5:=hC _ _ (by omega) hW2.pathB;have hC4:=hC _ _ (by omega) hW2.usedB;have hC3:=hC _ _ (by omega) hW2.marks;have hC2:=hC _ _ (by omega) hW2.outB;have hE:=hend _ _ _ _ hW4;have ewp:IntKind.i64.wrap (p.length:Int)=(p.length:Int):=aC (by omega) (by omega);have hul':(us.set (aZ v s) true).length=(bB v).length:=by simpa using hul
  simp [-aj,-au,-ah,-AV.solid,-bA,-bD,-List.map_append,-List.map_set,OA,hW2.all,hC5,hC4,hC3,hC2,hs1f,hyf,hy1f,hul,hps,kE,hE.2,ewp];rw [hleaf];exact⟨_,_,hE.1⟩
 ·have hne: ¬(aZ v s:Int)=aZ v t:=fun e=>hst (gT ok hs ht (by omega));have hrow:=mX hpg;have hrl:=(zA.1 hrow).1;have hrow':=(zA.1 hrow).2;simp [-aj,-au,-ah,-AV.solid,-bA,-bD,OA,hW.all,hW0,hs1f,hpf,hB4,hB3,hB1,hB0,aU,hps,hul,kE,hne,hrow,hrow',hrl];rw [List.map_set,show kE true=[AV.bool true] from rfl] at hW2;generalize (H1.set (R+5) (.cells 1 [[s1]])).set (R+3) (.cells 1 ((us.map kE).set (aZ v s) [.bool true]))=H3 at hW2 ⊢;have hrlen:=pM v s;refine aT.upL OA mixed (rowOf v s).length (fun k fr H=>(fr 0= .int .i64 (aZ v s)∧fr 1= .ptr (R+5) 0 0∧fr 2= .ptr R 0 0∧fr 3= .ptr (R+4) 0 0∧fr 4= .ptr (R+1) 0 0∧fr 5= .ptr (R+2) 0 0∧fr 6= .ptr (R+6) 0 0)∧fr 34= .ro ((rowOf v s).map bH)∧fr 35= .int .i64 (rowOf v s).length∧fr 36= .int .i64 k∧
    ∃x y,gm h H R m v t (us.set (aZ v s) true) (p++[s]) x (yg v t n (p++[s]) f k) y) 0 (by omega)
   ⟨by simp,by simp,by simp,by simp,s1,y,by rw [Oa];exact hW2⟩ ?_
  clear hW2 hW1 hs1 hg1 hn1 hW0 hB hB0 hB1 hB2 hB3 hB4 hl1 hk1 hs1f hpf hyf;rintro k fr H hk ⟨⟨e0,e1,e2,e3,e4,e5,e6⟩,e34,e35,e36,x',y',hWk⟩;have hxf:=hWk.path.rs.fix;have hyf:=hWk.out.rs.fix;have hyl:=hWk.out.rs.len2;have hxl:=hWk.path.rs.len2;have hfle:=GD v t n (p++[s]) f (by omega) k;rcases zN k (rowOf v s).length with hlt | hge
  ·obtain⟨r,hr,hr'⟩:=aJ hlt;obtain⟨l,l1,rfl,l3,l4,l5,l6⟩:=Dj ok hr;have ew:=aB (i:=k) (by omega);have hpd:=dG l6;have hud:=hmk1.2 l.dst l6;have hud':=(zA.1 hud).2;have hul':aZ v l.dst<(us.set (aZ v s) true).length:=by rw [hmk1.1];exact hpd
   have hsu2:=EX (v:=v) (t:=t) (n:=n) (path:=p++[s]) (f:=f) (k:=k) (x:=l.dst) (by rw [jA];exact l1);generalize hF:yg v t n (p++[s]) f k=F at*;have hWb:=hWk.more [.cells 3 [bH (bi v l)]];have hylb:=hWb.out.rs.len2;have hxlb:=hWb.path.rs.len2;simp only [Bu,bi] at hylb hxlb;by_cases hin:l.dst∈p++[s]
   ·simp [-aj,-au,-ah,-AV.solid,-bA,-bD,-List.map_set,-List.mem_append,OA,hWk.all,aU,e0,e1,e2,e3,e4,e5,e6,e34,e35,e36,hlt,hr,hr',bi,hul',hmk1.1,hpd,hud,hud',kE,hin,ew];exact⟨k+1,by omega,by omega,by omega,x',y',by rw [hsu2,BB (by rintro⟨_,c,_⟩;exact c hin)];simpa [bi] using hWb⟩
   ·by_cases hlim:1024<F.length
    ·have hlim':(1024:Int)<F.length:=by omega
     simp [-aj,-au,-ah,-AV.solid,-bA,-bD,-List.map_set,-List.mem_append,OA,hWk.all,aU,e0,e1,e2,e3,e4,e5,e6,e34,e35,e36,hlt,hr,hr',bi,hul',hmk1.1,hpd,hud,hud',kE,hin,ew,hyf,hylb,hlim,hlim'];exact⟨k+1,by omega,by omega,by omega,x',y',by rw [hsu2,BB (by rintro⟨c,_⟩;omega)];simpa [bi] using hWb⟩
    ·have hlim': ¬(1024:Int)<F.length:=by omega
     simp [-aj,-au,-ah,-AV.solid,-bA,-bD,-List.map_set,-List.mem_append,OA,hWk.all,aU,e0,e1,e2,e3,e4,e5,e6,e34,e35,e36,hlt,hr,hr',bi,hul',hmk1.1,hpd,hud,hud',kE,hin,ew,hyf,hylb,hlim,hlim'];have hus:Rs 1 (H++[.cells 3 [[.int .i64 (aZ v l.dst),.int .i64 l.min,.int .i64 l.max]]]) (.own (R+3) 0 (bB v).length) ((us.set (aZ v s) true).map kE):=by
      have:=Rs.own (n:=1) (h:=H++[.cells 3 [[.int .i64 (aZ v l.dst),.int .i64 l.min,.int .i64 l.max]]]) (b:=R+3) (es:=(us.set (aZ v s) true).map kE) (by simpa [bi] using hWb.marks) (Qe _);rw [List.length_map,hmk1.1] at this;exact this
     refine ax.any (La v m (p++[s]) l.dst t (us.set (aZ v s) true) _ ok l6 ht hus hmk1.1 hmk1.2) ?_;rintro r h2 ⟨⟨nn,rfl,hnn⟩,rfl⟩;have hcb:=Je ok hnn;have hrange: -1≤nn∧nn≤63:=by rcases hnn with⟨e,_⟩ | ⟨c1,c2,_⟩ <;> omega
     have hpl2:((p++[s]).length:Int)=(p.length:Int)+1:=by simp
     have ewa:IntKind.i64.wrap ((p.length:Int)+1+1)=(p.length:Int)+1+1:=aC (by omega) (by omega);have ewb:IntKind.i64.wrap ((p.length:Int)+1+1+nn)=(p.length:Int)+1+1+nn:=aC (by omega) (by omega);rw [hpl2] at hcb;have hxlb1: ∀e,lenOk (H++[.cells 3 [[.int .i64 (aZ v l.dst),.int .i64 l.min,.int .i64 l.max]]]) (.slice e) x':=fun e=>(hxlb.2 e).2 trivial;have hxlb2:alen (H++[.cells 3 [[.int .i64 (aZ v l.dst),.int .i64 l.min,.int .i64 l.max]]]) x'=(p.length:Int)+1:=by rw [hxlb.1];simp
     simp [-aj,-au,-ah,-AV.solid,-bA,-bD,-List.map_set,-List.mem_append,OA,hWk.all,aU,e0,e1,e2,e3,e4,e5,e6,e34,e35,e36,hlt,hr,hr',bi,hul',hmk1.1,hpd,hud,hud',kE,hin,ew,hyf,hxf,hxlb1,hxlb2,ewa,ewb,wF];refine⟨fun c1 c2=> ?_,fun cc=>⟨k+1,by omega,by omega,by omega,x',y',by rw [hsu2,BB (by rintro⟨_,_,c⟩;rw [hcb] at c;have:=of_decide_eq_true c;have:=cc this.1;omega)];simpa [bi] using hWb⟩⟩;have hc3:lU v (p++[s]++[l.dst]) t=true:=by rw [hcb];exact decide_eq_true ⟨c1,by omega⟩
     obtain⟨n',rfl⟩: ∃n',n=n'+1:=⟨n - 1,by omega⟩;rw [Qi ⟨by omega,hin,hc3⟩] at hsu2;have hcl:=ih n' rfl l.dst (p++[s]) (us.set (aZ v s) true) F x' y' _ hWb hmk1 l6 hin (by simp;omega) (by omega);refine ax.any (by simpa [bi] using hcl) ?_;rintro r h3 ⟨rfl,x2,y2,hW3⟩;simp [-aj,-au,-ah,-AV.solid,-bA,-bD,OA,e0,e1,e2,e3,e4,e5,e6,e34,e35,e36,ew];exact⟨k+1,by omega,by omega,by omega,x2,y2,by rw [hsu2,zK];exact hW3⟩
  ·obtain rfl:k=(rowOf v s).length:=by omega
   have hall:=Qh (v:=v) (t:=t) (n:=n) (path:=p++[s]) (f:=f) (by rw [jA];exact hst);rw [jA,←u6] at hall;rw [hall] at hWk hyl;have hE:=hend _ _ _ _ hWk;have ewp:IntKind.i64.wrap (p.length:Int)=(p.length:Int):=aC (by omega) (by omega);simp [-aj,-au,-ah,-AV.solid,-bA,-bD,-List.map_append,-List.map_set,OA,hWk.all,e0,e1,e2,e3,e4,e5,e6,e34,e35,e36,hxf,hmk1.1,hul,hps,kE,hE.2,ewp];exact⟨_,_,hE.1⟩
theorem Kw (R m:Nat)(v:bn)(t:Bytes)(ok:aV v)(ht:aF v.pts t=true): ∀n,KF gl h R m v t n
 | 0=>F9 R m v t ok ht 0 fun n' e=>by omega
 | n+1=>F9 R m v t ok ht (n+1) fun n' e=>by
  obtain rfl:n'=n:=by omega
  exact Kw R m v t ok ht n'
def Ho (v:bn)(a b:Bytes):AV:= .tup [.ro ((fD v a b).1.map gq),.int .i64 (fD v a b).2]
theorem CO (l:List (List Bytes)): ∀e∈l.map gq,∀y∈e,y.Data:=by
 intro e he y hy;obtain⟨p,_,rfl⟩:=List.mem_map.1 he;simp [gq] at hy;subst hy;exact .ro _ (gM _)
set_option maxHeartbeats 8000000 in
theorem Ja (n:bn)(a b:Bytes)(hp:n.pts.length≤1000)(hl:n.lks.length≤1000):aa Tryz.prog gl 185 [.agg (bU n),.str a,.str b] h fun x h'=>x=Ho (cu n) a b∧h'=h:=by
 refine aa.fresh' (aa.body Tryz.f185 _ mixed Tryz.func185 rfl rfl (by simp [Tryz.ntmps185]) ?_);have ok:=uD n;simp;refine ax.any (om n hp hl) ?_;rintro x h1 ⟨m,g,rfl,hh1,hmge,hm⟩;generalize cu n=v at*;have hM:xS h1 m v:=⟨hm⟩;have hB: ∃g1,h1=h++g1:=⟨_,by rw [hh1,zK]⟩;clear hh1 hmge;have hbl:=bJ hB;have hnl:(bB v).length≤64:=by rw [lI];exact ok.plen
 simp [aU];refine ax.pure _ (fun _=>BR v m a b (hM.more _)) ?_;by_cases hq:aF v.pts a=true∧aF v.pts b=true
 ·obtain⟨qa,qb⟩:=hq;have ea:numOf v a=(aZ v a:Int):=by rw [numOf,if_pos qa]
  have eb:numOf v b=(aZ v b:Int):=by rw [numOf,if_pos qb]
  rw [ea,eb,qa,qb];obtain⟨R,hR⟩: ∃R,R=h1.length:=⟨_,rfl⟩;simp (config := { maxSteps := 2000000 }) [-aj,-au];refine⟨by omega,?_⟩;have hRl:=congrArg (fun k=>k) hR;have hqa:=dG qa;have hqb:=dG qb;obtain⟨H0,hH0⟩: ∃H0,H0=h1++[.cells 3 [aU v m],.cells 1 [[.int .i64 (aZ v b)]],.cells 1 [[.nil]],.cells 1 ((List.replicate (bB v).length false).map kE),.cells 1 [[.own (h1.length+3) 0 (bB v).length]],.cells 1 [[.nil]],.cells 1 [[wF h1.length]]]:=⟨_,rfl⟩;have hW0:gm h H0 h1.length m v b (List.replicate (bB v).length false) [] .nil [] .nil:=by
   subst hH0;exact⟨by simp,by simp,by simp,by simp,by simp,by simp,by simp,⟨.inl ⟨rfl,rfl⟩,fun e he=>by simp at he⟩,.nil,fun b off len off' len' e=>by simp at e,aI hB _,by omega⟩
  have hmk0:marked v (List.replicate (bB v).length false) []:=by
   refine⟨by simp,fun s hs=> ?_⟩;rw [List.getElem?_replicate,if_pos (dG hs)];simp
  have hcl:=Kw (gl:=gl) (h:=h) h1.length m v b ok qb 15 a [] (List.replicate (bB v).length false) [] .nil .nil H0 hW0 hmk0 qa (by simp) (by simp) (by simp);have hpe:fD v a b=if 1024<(jT v b 15 [a] []).length then ([],3) else (jT v b 15 [a] [],0):=by unfold fD;rw [if_pos ⟨qa,qb⟩]
  rw [Ho,hpe];have hH1:h1++[.cells 3 [aU v m],.cells 1 [[.int .i64 (aZ v b)]],.cells 1 [[.nil]],.cells 1 (List.replicate (bB v).length [.bool false]),.cells 1 [[.own (h1.length+3) 0 (bB v).length]],.cells 1 [[.nil]],.cells 1 [[wF h1.length]]]=H0:=by
   rw [hH0,List.map_replicate];rfl
  simp only [aU,wF] at hH1;rw [hH1];refine ax.any hcl ?_;rintro r h3 ⟨rfl,x',y',hW3⟩;have hyf:=hW3.out.rs.fix;have hyl:=hW3.out.rs.len2;by_cases hlim:1024<(jT v b 15 [a] []).length
  ·have hlim':(1024:Int)<(jT v b 15 [a] []).length:=by omega
   rw [if_pos hlim];simp [-aj,-au,-ah,-AV.solid,-bA,-bD,hW3.all,hyf,hyl,hlim,hlim'];exact⟨hW3.base,.tup' (.cons .nil (.cons (.data _ (by simp)) .nil))⟩
  ·have hlim': ¬(1024:Int)<(jT v b 15 [a] []).length:=by omega
   rw [if_neg hlim];simp [-aj,-au,-ah,-AV.solid,-bA,-bD,hW3.all,hyf,hyl,hlim,hlim'];exact⟨hW3.base,.tup' (.cons (hW3.out.frz (by omega) (CO _)) (.cons (.data _ (by simp)) .nil))⟩
 ·have hno:fD v a b=([],16):=by unfold fD;rw [if_neg hq]
  have hq':(aF v.pts a && aF v.pts b)=false:=by
   rw [Bool.and_eq_false_iff];by_cases c:aF v.pts a=true
   ·right
    by_cases c2:aF v.pts b=true
    ·exact absurd ⟨c,c2⟩ hq
    ·simpa using c2
   ·left;simpa using c
  rw [hq'];simp (config := { maxSteps := 5000000 }) [aU];rw [Ho,hno];exact⟨aI hB _,.tup' (.cons .nil (.cons (.data _ (by simp)) .nil))⟩
end Go.Proofs.YtkpioblbeiaefaaGreat
namespace Go.Proofs.YtkpioblbeiaefaaGreat
open Go Go.Abs Go.Toll
variable {gl : aM} {h : af}
section
variable {H H' : af} {v : bn} {x y z x' y' : AV} {S S' M M' F : List Bytes}
end
section
variable {H H' : af} {lo : Nat} {v : bn} {x0 x r : AV} {f f' : List (List Bytes)}
end
end Go.Proofs.YtkpioblbeiaefaaGreat
