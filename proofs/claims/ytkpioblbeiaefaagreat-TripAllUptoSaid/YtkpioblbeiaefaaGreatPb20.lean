/- Part 20 of the lemmas below the statements of this seat: GrA, IndexRoad, GrB, GrC. -/
import Derived.Test.YtkpioblbeiaefaaGreatPb19
set_option linter.unusedSectionVars false
set_option linter.unusedVariables false
set_option linter.unusedSimpArgs false
set_option linter.unnecessarySimpa false
set_option maxRecDepth 100000
section
namespace Go.Proofs.YtkpioblbeiaefaaGreat
open Go Go.Abs Go.Toll
variable {gl : aR} {h : ak}
theorem D6 (v:bv)(s:Bytes):bC Tryz.prog 9 (.str s) (sM jg (Ko v)):=by
 refine⟨by simp [dY],[.str],by simp,by simp,fun p hp=> ?_⟩;obtain⟨q,_,rfl⟩:=Ac _ hp;simp
theorem Lt (v:bv)(s:Bytes):iy (sM jg (Ko v)) (.str s)=if aL v.pts s=true then some (.int .i64 (bz v s)) else none:=by
 rw [kP,DR];split <;> rfl
structure zn (h:ak)(m:Nat)(v:bv):Prop where
 at':h[m]? =some (.map (sM jg (Ko v)))
theorem zn.lt {h:ak} {m:Nat} {v:bv} (p:zn h m v):m<h.length:=(zA.1 p.at').1
theorem zn.all {h:ak} {m:Nat} {v:bv} (p:zn h m v):h[m]? =some (.map (sM jg (Ko v)))∧m<h.length∧ ∀hl:m<h.length,h[m]= .map (sM jg (Ko v)):=⟨p.at',p.lt,fun _=>(zA.1 p.at').2⟩
theorem zn.more {h:ak} {m:Nat} {v:bv} (p:zn h m v)(g:ak):zn (h++g) m v:=⟨by rw [zC p.lt];exact p.at'⟩
structure iE (h H:ak)(p m:Nat)(v:bv):Prop where
 rr:H[p]? =some (.cells 3 [bf v m])
 mm:zn H m v
 ple:h.length≤p
 base: ∃g,H=h++g
section
variable {H H' : ak} {p m lo : Nat} {v : bv}
theorem iE.all (r:iE h H p m v):(H[p]? =some (.cells 3 [bf v m])∧p<H.length∧ ∀hl:p<H.length,H[p]= .cells 3 [bf v m])∧H[m]? =some (.map (sM jg (Ko v)))∧m<H.length∧ ∀hl:m<H.length,H[m]= .map (sM jg (Ko v)):=
 ⟨⟨r.rr,(zA.1 r.rr).1,fun _=>(zA.1 r.rr).2⟩,r.mm.all⟩
theorem iE.more (r:iE h H p m v)(g:ak):iE h (H++g) p m v:=
 ⟨by rw [zC r.all.1.2.1];exact r.rr,r.mm.more g,r.ple,aF r.base g⟩
theorem iE.keep (r:iE h H p m v)(hk: ∀b o,b<lo→H[b]? =some o→H'[b]? =some o)(hp:p<lo)(hm:m<lo)(hb: ∃g,H'=h++g):iE h H' p m v:=
 ⟨hk _ _ hp r.rr,⟨hk _ _ hm r.mm.at'⟩,r.ple,hb⟩
theorem iE.grow {lo':Nat} {s:AV} (r:iE h H p m v)(g:Grow lo' H s H')(hs: ∀b off len,s= .own b off len→lo≤b)(hp:p<lo)(hm:m<lo)(hlo:h.length≤lo'):iE h H' p m v:=
 r.keep (fun b o hb ho=>g.keep b o ho fun off len e=>by have:=hs b off len e;omega) hp hm (g.base h hlo r.base)
theorem iE.new {H0:ak} (hM:zn H0 m v)(hB: ∃g,H0=h++g):iE h (H0++[.cells 3 [bf v m]]) H0.length m v:=
 ⟨by simp,hM.more _,aV hB,aF hB _⟩
end
def wH (v:bv)(a b:Bytes):AV:=match jf v a b with
 | some (p,d)=> .tup [.ro (p.map aO),.int .i64 d,.bool true]
 | none=> .tup [.ro [],.int .i64 0,.bool false]
def numOf (v:bv)(s:Bytes):Int:=if aL v.pts s=true then (bz v s:Int) else 0
theorem DU (v:bv)(m:Nat)(a b:Bytes)(hm:zn h m v):af Tryz.prog gl 194 [.agg (bf v m),.str a,.str b] h fun x h'=>x= .tup [.int .i64 (numOf v a),.int .i64 (numOf v b),.bool (aL v.pts a && aL v.pts b)]∧h'=h:=by
 refine af.data (by simp) (af.body Tryz.f194 _ mixed Tryz.func194 rfl rfl (by simp [Tryz.ntmps194]) ?_);have hk:=D6 v;have hl:=Lt v;by_cases h1:aL v.pts a=true <;> by_cases h2:aL v.pts b=true <;> simp [-bC,bf,hm.all,hk,hl,h1,h2,numOf]
theorem J6 {v:bv} (ok:aY v) {s:Bytes} (h:aL v.pts s=true):fU s:=by
 have:=SN (ok.name h);unfold fU;omega
theorem Rn.fix {x:AV} {es:List (List AV)} (r:Rn x es):x.core=x∧x.gd=true∧x.solid=true∧ah x=[x]:=by rcases r with rfl | ⟨rfl,_⟩ <;> exact⟨rfl,rfl,rfl,rfl⟩
theorem EH (v:bv)(s:Bytes)(ok:aY v):af Tryz.prog gl 202 [.agg (bE v),.str s] h fun x h'=>x= .ro ((df v s).map aO)∧h'=h:=by
 refine af.fresh' (af.body Tryz.f202 _ mixed Tryz.func202 rfl rfl (by simp [Tryz.ntmps202]) ?_);have hlk:=ok.llen;simp;refine aW.up mixed v.lks.length (fun i fr h'=>fr 1= .str s∧fr 2= .ptr h.length 0 0∧fr 6= .int .i64 i∧h'=h++[.cells 2 [bE v]]∧ ∃x,fr 5=x∧Rn x ((uS v s i).map aO)) 0 (by omega) ⟨by simp,by simp,by simp,by simp,.nil,by simp,Rn.nil⟩ ?_;rintro i fr H hi ⟨e1,e2,e6,rfl,x,e5,hx⟩;have hf:=Rn.fix hx;rcases zN i v.lks.length with hlt | hge
 ·obtain⟨l,hl,hl'⟩:=aN hlt;have ew:=aB (i:=i) (by omega);have hn:=NR s hl;have hln:=QS v s i;simp [e1,e2,e5,e6,hlt,hl,hl',hf,ew];refine⟨fun q=> ?_,fun q=>⟨i+1,by omega,by omega,by omega,by rw [hn,if_neg q];exact hx⟩⟩;refine ay.pure _ (fun _=>yU (uS v s i) l.dst x hx (J6 ok (ok.ends l (zF hl)).2.1) (by omega)) ?_;simp [e1,e2,e6,hlt,hl,hl',ew];exact⟨i+1,by omega,by omega,by omega,by rw [hn,if_pos q];exact Rn.ro _⟩
 ·rw [QR ok s hge] at hx;simp [e1,e2,e5,e6,Nat.not_lt.2 hge,hf];rcases hx with rfl | ⟨rfl,e⟩
  ·exact .data _ (.ro _ (fZ _))
  ·rw [e];exact .nil
end Go.Proofs.YtkpioblbeiaefaaGreat
end
section
namespace Go.Proofs.YtkpioblbeiaefaaGreat
open Go Go.Abs Go.Toll
variable {gl : aR} {h : ak}
theorem CE (x:AV)(es:List (List AV))(hx:Rd 3 h x es)(hl:es.length≤1152921504606846976)(f:FuncId)(caps:List AV)(p:List AV→Bool)
  (hp: ∀e∈es,∀g,af Tryz.prog gl f (.agg e::caps) (h++g) fun v h'=>v= .bool (p e)∧h'=h++g):
  af Tryz.prog gl 187 [x,.fn (.func f) [] caps] h fun v h'=>v= .int .i64 (lv p es)∧h'=h:=by
 refine af.data (by simp) (af.body Tryz.f187 _ mixed Tryz.func187 rfl rfl (by simp [Tryz.ntmps187]) ?_);simp [hx.core,hx.gd,hx.lenOk,hx.alen];refine aW.up mixed es.length (fun i fr h'=>fr 0=x∧fr 1= .fn (.func f) [] caps∧fr 7= .int .i64 es.length∧fr 8= .int .i64 i∧lv p es=idxFrom p i (es.drop i)∧ ∃g,h'=h++g) 0 (by omega) ⟨by simp,by simp,by simp,by simp,by simp [lv],[],by simp⟩ ?_;rintro i fr h' hi ⟨e0,e1,e7,e8,hf,g,rfl⟩;have hx:=hx.append g;rcases zN i es.length with hlt | hge
 ·obtain⟨y,hg,hg'⟩:=aN hlt;have hy:y.length=3:=hx.2 y (hg'▸List.getElem_mem hlt);rw [bF hg,idxFrom] at hf;have ew:=aB (i:=i) (by omega);have h0:(0:Int)≤i:=by omega
  have h1:(i:Int)<es.length:=by omega
  simp [e0,e1,e7,e8,hlt,hx.core,hx.gd,hx.iaddrOk,h0,h1,hx.icore,hx.igd,hx.loadV h0 h1 hg,hx.loadOk h0 h1 hg,hy];rw [zG (by omega)];refine ay.pure _ (fun _=>hp y (hg'▸List.getElem_mem hlt) g) ?_;simp [e0,e1,e7,e8,ew];refine⟨fun hpy=>by simp [hf,hpy],fun hpy=>⟨i+1,by omega,by omega,by simp,by simp [hf,hpy]⟩⟩
 ·rw [zH hge] at hf;simp [e0,e1,e7,e8,hf,Nat.not_lt.2 hge,idxFrom]
end Go.Proofs.YtkpioblbeiaefaaGreat
end
section
namespace Go.Proofs.YtkpioblbeiaefaaGreat
open Go Go.Abs Go.Toll
variable {gl : aR} {h : ak}
def lu (b:Bool):List AV:=[.bool b]
def wB (v:bv)(s:Bytes):List AV:=[.int .i64 (bz v s)]
theorem Sd (l:List Bool): ∀e∈l.map lu,e.length=1:=by
 intro e he;obtain⟨_,_,rfl⟩:=List.mem_map.1 he;rfl
section
variable {H H' : ak} {p m : Nat} {v : bv} {sn : List Bool} {x : AV} {Q : List Bytes}
end
theorem F9 (r:kF)(b:Nat)(n:Int)(hb:h[b]? =some (.cells 1 [[.int .i64 n]])):af Tryz.prog gl 188 [.agg (bV r),.ptr b 0 0] h fun x h'=>x= .bool (decide (r.to=n))∧h'=h:=by
 refine af.data (.bool _) (af.body Tryz.f188 _ mixed Tryz.func188 rfl rfl (by simp [Tryz.ntmps188]) ?_);obtain⟨h1,h2⟩:=zA.1 hb;simp [hb,h1,h2];rfl
def Uw:Nat→Option (List (Nat×Nat)):=fun i=>if i=15 then some [(1,8),(4,8),(5,8),(6,8)] else none
set_option maxHeartbeats 4000000 in
theorem rV (n:bv)(pth:List Bytes)(hp:n.pts.length≤1000)(hl:n.lks.length≤1000)(hpl:pth.length≤1000000):af Tryz.prog gl 170 [.agg (bE n),.ro (pth.map aO)] h fun x h'=>x= .tup [.int .i64 (bN (cO n) pth).1,.int .i64 (bN (cO n) pth).2.1,.int .i64 (bN (cO n) pth).2.2]∧h'=h:=by
 refine af.data (by simp) (af.bodyL Uw Tryz.f170 _ mixed Tryz.func170 rfl rfl (by simp [Tryz.ntmps170]) ?_);have ok:=oh n;simp;refine ay.any (qh n hp hl) ?_;rintro x h1 ⟨m,g,rfl,hh1,hmge,hm⟩;generalize cO n=v at*;have hM:zn h1 m v:=⟨hm⟩;have hB: ∃g1,h1=h++g1:=⟨_,by rw [hh1,zK]⟩;clear hh1 hmge;have hk:=D6 v;have hl:=Lt v;have hR:=iE.new hM hB;obtain⟨p,hp⟩: ∃p,p=h1.length:=⟨_,rfl⟩;have hml:=hM.lt;have hbl:=aV hB;simp [bf];refine⟨fun e=> ?_,fun hne=> ?_⟩
 ·subst e;exact⟨⟨rfl,rfl,rfl⟩,aF hB _⟩
 ·rw [←hp] at hR ⊢;refine aW.upL Uw mixed pth.length (fun i fr H=>fr 1= .ro (pth.map aO)∧fr 7= .ptr p 0 0∧fr 23= .ro (pth.map aO)∧fr 24= .int .i64 pth.length∧fr 25= .int .i64 i∧iE h H p m v∧ ∀s∈upTo pth i,aL v.pts s=true) 0 (by omega)
   ⟨by simp,by simp,by simp,by simp,by simp,hR,by simp [upTo]⟩ ?_
  clear hR;rintro i fr H hi ⟨e1,e7,e23,e24,e25,hR,hall⟩;have hRl:=hR.all.1.2.1;rcases zN i pth.length with hlt | hge
  ·obtain⟨s,hs,hs'⟩:=aN hlt;have ew:=aB (i:=i) (by omega);have hu:=IV hs;by_cases q:aL v.pts s=true
   ·simp [-ae,-ai,-ah,-AV.solid,-bC,Uw,bf,aO,hR.all,hk,hl,q,e1,e7,e23,e24,e25,hlt,hs,hs',ew];refine⟨i+1,by omega,by omega,by omega,hR,fun t ht=> ?_⟩;rw [hu] at ht;rcases List.mem_append.1 ht with ht | ht
    ·exact hall t ht
    ·rw [List.mem_singleton.1 ht];exact q
   ·have hbad:=um (v:=v) hne ⟨s,zF hs,by simpa using q⟩;simp [-ae,-ai,-ah,-AV.solid,-bC,Uw,bf,aO,hR.all,hk,hl,q,e1,e7,e23,e24,e25,hlt,hs,hs'];rw [hbad];exact⟨⟨rfl,rfl,rfl⟩,hR.base⟩
  ·rw [MI hge] at hall;obtain rfl:i=pth.length:=by omega
   obtain⟨a,l,hal⟩:=List.exists_cons_of_ne_nil hne;have hbm:bN v pth=match wk v a l with | some s=>(s.1,s.2,0) | none=>(0,0,21):=by
    rw [hal];exact kr (by rw [←hal];exact hall)
   obtain⟨W,hW⟩: ∃W,W=wk v a l:=⟨_,rfl⟩;rw [←hW] at hbm;simp [-ae,-ai,-ah,-AV.solid,-bC,Uw,e1,e7,e23,e24,e25];refine aW.upL Uw mixed pth.length (fun i fr H=>fr 1= .ro (pth.map aO)∧fr 7= .ptr p 0 0∧fr 14= .int .i64 i∧iE h H p m v∧1≤i∧ ∃low high u,fr 12= .int .i64 low∧fr 13= .int .i64 high∧pth[i - 1]? =some u∧W=(wk v u (pth.drop i)).map (fun s=>(low+s.1,high+s.2))∧(0≤low∧low≤2147483648*(i:Int))∧(0≤high∧high≤2147483648*(i:Int))) 1 (by rw [hal];simp)
    ⟨by simp [e1],by simp [e7],by simp,hR,by omega,0,0,a,by simp,by simp,by rw [hal];rfl,?_,by omega,by omega⟩ ?_
   ·rw [hW,hal];simp
   clear e1 e7 e23 e24 e25 hR hRl hi hge;rintro i fr H hi ⟨e1,e7,e14,hR,h1i,low,high,u,e12,e13,hu,hWu,hlo,hhi⟩;have hRl:=hR.all.1.2.1;rcases zN i pth.length with hlt | hge
   ·obtain⟨t,ht,ht'⟩:=aN hlt;have ew:=aB (i:=i) (by omega);have htp:=hall t (zF ht);have hup:=hall u (zF hu);have hu':=(zA.1 hu).2;have hul:=(zA.1 hu).1;have ew1:IntKind.i64.wrap ((i:Int) - 1)=((i - 1:Nat):Int):=by rw [aD (by omega) (by omega)];omega
    have hrow:=nY (gW hup);have hrl:=(zA.1 hrow).1;have hrow':=(zA.1 hrow).2;rw [bF ht] at hWu;simp [-ae,-ai,-ah,-AV.solid,-bC,Uw,bf,aO,hR.all,hk,hl,htp,hup,e1,e7,e12,e13,e14,hlt,ht,ht',hu,hu',hul,ew,ew1,hrow,hrow',hrl];refine⟨by decide,by decide,?_⟩;have hrlen:=rF v u;have hlk:=ok.llen;refine ay.pure _ (fun _=>CE _ ((rowOf v u).map bV) (Rd.ro (by simp)) (by simp;omega) 188 [.ptr H.length 0 0] (fun e=>decide (jv (e.getD 0 .junk)=bz v t)) ?_) ?_
    ·intro e he g1;obtain⟨r,_,rfl⟩:=List.mem_map.1 he;exact F9 r H.length (bz v t) (by simp)
    ·have hR1:=hR.more [.cells 1 [[.int .i64 (bz v t)]]];rw [K7 bV _ (fun r:kF=>decide (r.to=bz v t)) (fun r=>rfl)];rcases Vm ok (s:=u) htp with⟨c1,c2⟩ | ⟨k,x,c1,c2,c3⟩
     ·have hnone:W=none:=by rw [hWu,wk,c2];rfl
      rw [c1];simp [-ae,-ai,-ah,-AV.solid,-bC,Uw];rw [hbm,hnone];exact⟨⟨rfl,rfl,rfl⟩,hR1.base⟩
     ·obtain⟨m1,_,_⟩:=gF c3;obtain⟨r1,r2,r3⟩:=ok.rng x m1;have hsome:W=(wk v t (pth.drop (i+1))).map (fun s=>(low+x.min+s.1,high+x.max+s.2)):=by
       rw [hWu,wk,c3]
       cases wk v t (pth.drop (i+1)) with
       | none=>rfl
       | some s=>simp [Int.add_assoc]
      have c2':=(zA.1 c2).2;have c2l:=(zA.1 c2).1;have ew2:IntKind.i64.wrap (low+x.min)=low+x.min:=aD (by omega) (by omega);have ew3:IntKind.i64.wrap (high+x.max)=high+x.max:=aD (by omega) (by omega);have hkn: ¬((k:Int)<0):=by omega
      rw [c1];simp [-ae,-ai,-ah,-AV.solid,-bC,Uw,e1,e7,e12,e13,e14,hkn,c2,c2',c2l,bD,ew,ew2,ew3];exact⟨i+1,by omega,by omega,by omega,hR1,by omega,t,by simpa using ht,hsome,by omega,by omega⟩
   ·obtain rfl:i=pth.length:=by omega
    rw [List.drop_length] at hWu;simp [-ae,-ai,-ah,-AV.solid,-bC,Uw,e1,e7,e12,e13,e14];rw [hbm,hWu];exact⟨⟨by simp,by simp,by simp⟩,hR.base⟩
set_option maxHeartbeats 4000000 in
theorem yT (n:bv)(pth:List Bytes)(hp:n.pts.length≤1000)(hl:n.lks.length≤1000)(hpl:pth.length≤1000000):af Tryz.prog gl 147 [.agg (bE n),.ro (pth.map aO)] h fun x h'=>x= .tup [.int .i64 (bN (cO n) pth).1,.int .i64 (bN (cO n) pth).2.1,.int .i64 (bN (cO n) pth).2.2]∧h'=h:=by
 refine af.data (by simp) (af.body Tryz.f147 _ mixed Tryz.func147 rfl rfl (by simp [Tryz.ntmps147]) ?_);simp;refine ay.pure _ (fun _=>pW n hp hl) ?_;have ok:=oh n;generalize cO n=v at*;have hlk:=ok.llen;have hpl:=ok.plen;simp;refine⟨fun e=> ?_,fun hne=> ?_⟩
 ·subst e;exact⟨rfl,rfl,rfl⟩
 ·refine aW.up mixed pth.length (fun i fr H=>fr 1= .ro (pth.map aO)∧fr 7= .ptr (h.length+1) 0 0∧fr 8= .int .i64 i∧H=h++[.cells 2 [bE n],.cells 2 [bE v]]∧ ∀s∈upTo pth i,aL v.pts s=true) 0 (by omega)
   ⟨by simp,by simp,by simp,by simp,by simp [upTo]⟩ ?_
  rintro i fr H hi ⟨e1,e7,e8,rfl,hall⟩;rcases zN i pth.length with hlt | hge
  ·obtain⟨s,hs,hs'⟩:=aN hlt;have ew:=aB (i:=i) (by omega);have hu:=IV hs;simp [aO,e1,e7,e8,hlt,hs,hs',ew];refine⟨by decide,?_⟩;refine ay.pure _ (fun _=>fo v.pts 64 s (by omega)) ?_;rw [zG (by omega)];simp [aO,e1,e7,e8,hlt,hs,hs',ew,uJ];refine⟨fun q=> ?_,fun q=>⟨i+1,by omega,by omega,by omega,fun t ht=> ?_⟩⟩
   ·rw [um (v:=v) hne ⟨s,zF hs,q⟩];exact⟨rfl,rfl,rfl⟩
   ·rw [hu] at ht;rcases List.mem_append.1 ht with ht | ht
    ·exact hall t ht
    ·rw [List.mem_singleton.1 ht];exact q
  ·rw [MI hge] at hall;obtain rfl:i=pth.length:=by omega
   obtain⟨a,l,hal⟩:=List.exists_cons_of_ne_nil hne;have hbm:bN v pth=match wk v a l with | some s=>(s.1,s.2,0) | none=>(0,0,21):=by
    rw [hal];exact kr (by rw [←hal];exact hall)
   obtain⟨W,hW⟩: ∃W,W=wk v a l:=⟨_,rfl⟩;rw [←hW] at hbm;simp [e1,e7,e8];refine aW.up mixed pth.length (fun i fr H=>fr 1= .ro (pth.map aO)∧fr 7= .ptr (h.length+1) 0 0∧fr 11= .int .i64 i∧H=h++[.cells 2 [bE n],.cells 2 [bE v]]∧1≤i∧ ∃low high u,fr 9= .int .i64 low∧fr 10= .int .i64 high∧pth[i - 1]? =some u∧W=(wk v u (pth.drop i)).map (fun s=>(low+s.1,high+s.2))∧(0≤low∧low≤2147483648*(i:Int))∧(0≤high∧high≤2147483648*(i:Int))) 1 (by rw [hal];simp)
    ⟨by simp [e1],by simp [e7],by simp,by simp,by omega,0,0,a,by simp,by simp,by rw [hal];rfl,?_,by omega,by omega⟩ ?_
   ·rw [hW,hal];simp
   clear e1 e7 e8 hi hge;rintro i fr H hi ⟨e1,e7,e11,rfl,h1i,low,high,u,e9,e10,hu,hWu,hlo,hhi⟩;rcases zN i pth.length with hlt | hge
   ·obtain⟨t,ht,ht'⟩:=aN hlt;have ew:=aB (i:=i) (by omega);have hu':=(zA.1 hu).2;have hul:=(zA.1 hu).1;have ew1:IntKind.i64.wrap ((i:Int) - 1)=((i - 1:Nat):Int):=by rw [aD (by omega) (by omega)];omega
    rw [bF ht] at hWu;simp [e1,e7,e9,e10,e11,hlt];refine aW.up mixed v.lks.length (fun k fr H=>fr 1= .ro (pth.map aO)∧fr 7= .ptr (h.length+1) 0 0∧fr 11= .int .i64 i∧fr 13= .int .i64 k∧H=h++[.cells 2 [bE n],.cells 2 [bE v]]∧fr 12= .bool (xB v u t k).isSome∧fr 9= .int .i64 (low+((xB v u t k).map (·.min)).getD 0)∧fr 10= .int .i64 (high+((xB v u t k).map (·.max)).getD 0)) 0 (by omega)
     ⟨by simp [e1],by simp [e7],by simp [e11],by simp,by simp,by simp [Aa],by simp [Aa,e9],by simp [Aa,e10]⟩ ?_
    clear e1 e7 e9 e10 e11;rintro k fr H hk ⟨e1,e7,e11,e13,rfl,e12,e9,e10⟩;rcases zN k v.lks.length with hltk | hgek
    ·obtain⟨x,hx,hx'⟩:=aN hltk;have ewk:=aB (i:=k) (by omega);obtain⟨r1,r2,r3⟩:=ok.rng x (zF hx);by_cases hm:x.src=u∧x.dst=t
     ·obtain⟨rfl,rfl⟩:=hm;obtain⟨hn,hs⟩:=Sy ok hx;rw [hn] at e9 e10 e12;have ew2:IntKind.i64.wrap (low+x.min)=low+x.min:=aD (by omega) (by omega);have ew3:IntKind.i64.wrap (high+x.max)=high+x.max:=aD (by omega) (by omega);simp at e9 e10 e12;simp [aO,e1,e7,e9,e10,e11,e12,e13,hlt,ht,ht',hu,hu',hul,ew1,hltk,hx,hx',ewk,ew2,ew3];exact⟨by decide,k+1,by omega,by omega,by omega,by rw [hs];simp⟩
     ·have hs:=QI u t hx hm;have hm':x.src=u→ ¬x.dst=t:=fun e1 e2=>hm ⟨e1,e2⟩;simp [aO,e1,e7,e9,e10,e11,e12,e13,hlt,ht,ht',hu,hu',hul,ew1,hltk,hx,hx',ewk];exact⟨by decide,fun c1 c2=>absurd c2 (hm' c1),fun _=>⟨k+1,by omega,by omega,by omega,by rw [hs],by rw [hs],by rw [hs]⟩⟩
    ·obtain rfl:k=v.lks.length:=by omega
     rw [Sw] at e9 e10 e12;simp [e1,e7,e9,e10,e11,e12,e13,ew];refine⟨fun c=> ?_,fun c=> ?_⟩
     ·have hnone:W=none:=by rw [hWu,wk,c];rfl
      rw [hbm,hnone];exact⟨rfl,rfl,rfl⟩
     ·obtain⟨x,hx⟩:=Option.isSome_iff_exists.1 c;obtain⟨m1,_,_⟩:=gF hx;obtain⟨r1,r2,r3⟩:=ok.rng x m1;have hsome:W=(wk v t (pth.drop (i+1))).map (fun s=>(low+x.min+s.1,high+x.max+s.2)):=by
       rw [hWu,wk,hx]
       cases wk v t (pth.drop (i+1)) with
       | none=>rfl
       | some s=>simp [Int.add_assoc]
      rw [hx];refine⟨i+1,by omega,by omega,by omega,by omega,t,by simpa using ht,hsome,?_,?_⟩
      ·simp;omega
      ·simp;omega
   ·obtain rfl:i=pth.length:=by omega
    rw [List.drop_length] at hWu;simp [e1,e7,e9,e10,e11];rw [hbm,hWu];exact⟨by simp,by simp,by simp⟩
end Go.Proofs.YtkpioblbeiaefaaGreat
end
section
namespace Go.Proofs.YtkpioblbeiaefaaGreat
open Go Go.Abs Go.Toll
variable {gl : aR} {h : ak}
theorem Nt (c d:TC):af Tryz.prog gl 205 [.agg (rR c),.agg (rR d)] h fun x h'=>x= .bool (wI c d)∧h'=h:=by
 refine af.data (.bool _) (af.body Tryz.f205 _ mixed Tryz.func205 rfl rfl (by simp [Tryz.ntmps205]) ?_);simp [wI];by_cases h1:c.time<d.time <;> by_cases h2:c.time=d.time <;> simp [h1,h2]
structure pF (h H:ak)(p m:Nat)(v:bv)(L:List TC):Prop where
 rr:H[p]? =some (.cells 3 [bf v m])
 out:H[p+1]? =some (.cells 2 (L.map rR))
 ple:h.length≤p
 base: ∃g,H=h++g
section
variable {H H' : ak} {p m : Nat} {v : bv} {L : List TC}
theorem pF.all (c:pF h H p m v L):(H[p]? =some (.cells 3 [bf v m])∧p<H.length∧ ∀hl:p<H.length,H[p]= .cells 3 [bf v m])∧H[p+1]? =some (.cells 2 (L.map rR))∧p+1<H.length∧ ∀hl:p+1<H.length,H[p+1]= .cells 2 (L.map rR):=
 ⟨⟨c.rr,(zA.1 c.rr).1,fun _=>(zA.1 c.rr).2⟩,c.out,(zA.1 c.out).1,fun _=>(zA.1 c.out).2⟩
theorem pF.more (c:pF h H p m v L)(g:ak):pF h (H++g) p m v L:=
 ⟨by rw [zC c.all.1.2.1];exact c.rr,by rw [zC c.all.2.2.1];exact c.out,c.ple,aF c.base g⟩
theorem pF.set (c:pF h H p m v L)(L':List TC):pF h (H.set (p+1) (.cells 2 (L'.map rR))) p m v L':=
 ⟨by rw [zJ (by omega)];exact c.rr,zI c.all.2.2.1,c.ple,cu c.base (by have:=c.ple;omega) _⟩
end
set_option maxHeartbeats 8000000 in
theorem KZ (v:bv)(m:Nat)(b:Bytes)(ok:aY v)(hb:aL v.pts b=true):af Tryz.prog gl 195 [.agg (bf v m),.int .i64 (bz v b)] h fun x h'=>(∃L,x= .ro (L.map rR)∧Uy v b L)∧h'=h:=by
 refine af.freshR (af.body Tryz.f195 _ mixed Tryz.func195 rfl rfl (by simp [Tryz.ntmps195]) ?_);have hnl:(bM v).length≤64:=by rw [mF];exact ok.plen
 have hlk:=ok.llen;have hpb:=d9 hb;obtain⟨p,hp⟩: ∃p,p=h.length:=⟨_,rfl⟩;simp [bf];refine⟨by omega,?_⟩;have hC0:pF h (h++[.cells 3 [bf v m],.cells 2 (List.replicate (bM v).length [.int .i64 0,.int .i64 0])]) p m v (oH (bM v).length 0):=by
  refine⟨by simp [hp],?_,by omega,_,rfl⟩;rw [Nz];simp [hp]
 rw [←hp];refine aW.up mixed (bM v).length (fun i fr H=>fr 1= .int .i64 (bz v b)∧fr 2= .ptr p 0 0∧fr 5= .own (p+1) 0 (bM v).length∧fr 17= .int .i64 (bM v).length∧fr 18= .int .i64 i∧pF h H p m v (oH (bM v).length i)) 0 (by omega)
  ⟨by simp,by simp,by simp,by simp,by simp,by simpa [bf] using hC0⟩ ?_
 clear hC0;rintro i fr H hi ⟨e1,e2,e5,e17,e18,hC⟩;have hil:=Qw hi;rcases zN i (bM v).length with hlt | hge
 ·have ew:=aB (i:=i) (by omega);have hg:=Qv hlt;have hg':=(zA.1 hg).2;have hs:=Qx hlt;have hC1:=hC.set (oH (bM v).length (i+1));rw [←hs,List.map_set] at hC1;simp [e1,e2,e5,e17,e18,hlt,hC.all,hil,hg,hg',ew];refine⟨i+1,by omega,by omega,by omega,?_⟩;rw [←hs];simpa [FO] using hC1
 ·obtain rfl:i=(bM v).length:=by omega
  rw [Qu] at hC;have hst:=kM.start ok hb;have hC1:=hC.set ((List.replicate (bM v).length FO).set (bz v b) ⟨0,0⟩);have hpb':(List.replicate (bM v).length FO)[bz v b]? =some FO:=by rw [List.getElem?_replicate,if_pos hpb]
  rw [List.map_set] at hC1;simp [e1,e2,e5,e17,e18,hC.all,hpb,hpb',FO];have hC2:pF h (H.set (p+1) (.cells 2 ((List.replicate (bM v).length [.int .i64 0,.int .i64 (-1)]).set (bz v b) [.int .i64 0,.int .i64 0]))) p m v ((List.replicate (bM v).length FO).set (bz v b) ⟨0,0⟩):=by
   have e:List.map rR (List.replicate (bM v).length FO)=List.replicate (bM v).length [AV.int .i64 0,.int .i64 (-1)]:=by rw [List.map_replicate];rfl
   rw [e] at hC1;exact hC1
  generalize (List.replicate (bM v).length FO).set (bz v b) ⟨0,0⟩=Ls at hst hC2;refine aW.down mixed (fun M fr H=>fr 2= .ptr p 0 0∧fr 5= .own (p+1) 0 (bM v).length∧ ∃ch L,fr 7= .bool ch∧pF h H p m v L∧kM v b L∧ZE v ch L M) (2*Gh Ls+1)
   ⟨by simp [e2],by simp [e5],true,Ls,by simp,hC2,hst,⟨by simp,by simp⟩⟩ ?_
  clear hC hC1 hC2 hst hil e1 e2 e5 e17 e18 hpb' hi hge;rintro M fr H ⟨e2,e5,ch,L,e7,hC,hok,⟨hfx,rfl⟩⟩;have hll:=hok.len
  cases ch with
  | false=>
   simp [-Bool.exists_bool,e2,e5,e7];refine⟨hC.base,_,?_,L,rfl,hok.opt ok (hfx rfl)⟩;have:=qy.ownD (n:=p) (b:=p+1) (off:=0) (len:=L.length) (es':=L.map rR) hC.out (by omega) (by simp) (by simp [zG]) (by
    intro e he y hy;obtain⟨c,_,rfl⟩:=List.mem_map.1 he;simp at hy;rcases hy with rfl | rfl <;> simp)
   rwa [hll] at this
  | true=>
   simp [-Bool.exists_bool,e2,e5,e7];refine aW.up mixed (bM v).length (fun i fr H=>fr 2= .ptr p 0 0∧fr 5= .own (p+1) 0 (bM v).length∧fr 32= .int .i64 (bM v).length∧fr 33= .int .i64 i∧ ∃ch L',fr 7= .bool ch∧pF h H p m v L'∧kM v b L'∧FQ v L ch L' i) 0 (by omega)
    ⟨by simp [e2],by simp [e5],by simp,by simp,false,L,by simp,hC,hok,FQ.start v L⟩ ?_
   clear hC hok hfx e2 e5 e7 hll;rintro i fr H hi ⟨e2,e5,e32,e33,ch,L',e7,hC,hok,hw⟩;have hll:=hok.len;rcases zN i (bM v).length with hlt | hge
   ·obtain⟨s,hs,_⟩:=aN hlt;obtain⟨hsp,hsi⟩:=PN ok hs;have hrow:=nY hs;have hrl:=(zA.1 hrow).1;have hrow':=(zA.1 hrow).2;have hrlen:=rF v s;have ew:=aB (i:=i) (by omega);simp [-Bool.exists_bool,bf,hC.all,e2,e5,e7,e32,e33,hlt,hrow,hrow',hrl];refine aW.up mixed (rowOf v s).length (fun k fr H=>fr 2= .ptr p 0 0∧fr 5= .own (p+1) 0 (bM v).length∧fr 32= .int .i64 (bM v).length∧fr 33= .int .i64 i∧fr 8= .int .i64 i∧fr 40= .ro ((rowOf v s).map bV)∧fr 41= .int .i64 (rowOf v s).length∧fr 42= .int .i64 k∧ ∃ch L',fr 7= .bool ch∧pF h H p m v L'∧kM v b L'∧FR v L ch L' s k) 0 (by omega)
     ⟨by simp [e2],by simp [e5],by simp [e32],by simp [e33],by simp,by simp,by simp,by simp,ch,L',by simp [e7],hC,hok,FQ.open (by rw [hsi];exact hw)⟩ ?_
    clear hC hok hw e2 e5 e7 e32 e33 hll;rintro k fr H hk ⟨e2,e5,e32,e33,e8,e40,e41,e42,ch,L',e7,hC,hok,hw⟩;have hll:=hok.len;rcases zN k (rowOf v s).length with hltk | hgek
    ·obtain⟨r,hr,hr'⟩:=aN hltk;obtain⟨x,x1,x2,x3,x4⟩:=Ak hr;subst x2;obtain⟨q1,q2,q3⟩:=ok.ends x x3;have q4:=d9 q2;obtain⟨r1,r2,r3⟩:=ok.rng x x3;have hgd:=vZ hll q2;have hgd':=(zA.1 hgd).2;have hgs:=vZ hll hsp;rw [hsi] at hgs;have hgs':=(zA.1 hgs).2;have ewk:=aB (i:=k) (by omega);have hC1:=hC.more [.cells 3 [bV (bD v x)],.cells 2 [rR (eO v L' x.dst)]];by_cases hd:(eO v L' x.dst).pts<0
     ·simp [-Bool.exists_bool,bf,hC.all,e2,e5,e7,e8,e32,e33,e40,e41,e42,hltk,hr,hr',bD,hgd,hgd',hgs,hgs',hll,q4,hlt,ewk,hd];exact⟨k+1,by omega,by omega,by omega,L',by simpa [bD] using hC1,hok,hw.keep x1 (.inl hd)⟩
     ·have hrg:=hok.rng ok q2 (by omega);have ew2:IntKind.i64.wrap ((eO v L' x.dst).time+x.min)=(eO v L' x.dst).time+x.min:=aD (by omega) (by omega);have ew3:IntKind.i64.wrap ((eO v L' x.dst).pts+1)=(eO v L' x.dst).pts+1:=aD (by omega) (by omega);have hC3:=hC.more [.cells 3 [bV (bD v x)],.cells 2 [rR (jR (eO v L' x.dst) x)]];have hC4:=(hC.set (L'.set i (jR (eO v L' x.dst) x))).more [.cells 3 [bV (bD v x)],.cells 2 [rR (jR (eO v L' x.dst) x)]];rw [List.map_set] at hC4;simp [-Bool.exists_bool,bf,hC.all,e2,e5,e7,e8,e32,e33,e40,e41,e42,hltk,hr,hr',bD,hgd,hgd',hgs,hgs',hll,q4,hlt,ewk,hd,ew2,ew3];refine⟨by decide,?_⟩;refine ay.pure (.bool (wI (jR (eO v L' x.dst) x) (eO v L' s))) (fun _=>Nt (jR (eO v L' x.dst) x) (eO v L' s)) ?_;simp [-Bool.exists_bool,bf,hC.all,e2,e5,e7,e8,e32,e33,e40,e41,e42,hltk,hr,hr',bD,hgd,hgd',hgs,hgs',hll,q4,hlt,ewk,hd,ew2,ew3];refine⟨fun c=> ?_,fun c1 c2=>⟨k+1,by omega,by omega,by omega,L',hC3,hok,hw.keep x1 (.inr (by rw [x4];exact⟨c1,c2⟩))⟩⟩;obtain⟨n1,n2⟩:=hok.step ok x3 (by omega) hb (by rw [x4];exact c);rw [x4,hsi] at n1 n2;exact⟨k+1,by omega,by omega,by omega,L'.set i (jR (eO v L' x.dst) x),hC4,n1,hw.turn n2⟩
    ·obtain rfl:k=(rowOf v s).length:=by omega
     simp [-Bool.exists_bool,e2,e5,e7,e8,e32,e33,e40,e41,e42,ew];exact⟨i+1,by omega,by omega,by omega,L',hC,hok,by have:=hw.close ok hsp (by rw [rowOf,List.length_map];exact Nat.le_refl _);rwa [hsi] at this⟩
   ·obtain rfl:i=(bM v).length:=by omega
    simp [-Bool.exists_bool,e2,e5,e7,e32,e33];exact⟨2*Gh L'+ch.toNat,hw.down,L',hC,hok,⟨fun c x hx=>(hw.still c).2 x hx (d9 (ok.ends x hx).1),rfl⟩⟩
set_option maxHeartbeats 8000000 in
theorem DT (n:bv)(a b:Bytes)(hp:n.pts.length≤1000)(hl:n.lks.length≤1000):af Tryz.prog gl 184 [.agg (bE n),.str a,.str b] h fun x h'=>x=wH (cO n) a b∧h'=h:=by
 refine af.fresh' (af.body Tryz.f184 _ mixed Tryz.func184 rfl rfl (by simp [Tryz.ntmps184]) ?_);have ok:=oh n;simp;refine ay.any (qh n hp hl) ?_;rintro x h1 ⟨m,g,rfl,hh1,hmge,hm⟩;generalize cO n=v at*;have hM:zn h1 m v:=⟨hm⟩;have hB: ∃g1,h1=h++g1:=⟨_,by rw [hh1,zK]⟩;clear hh1 hmge;have hR:=iE.new hM hB;obtain⟨p,hp⟩: ∃p,p=h1.length:=⟨_,rfl⟩;have hml:=hM.lt;have hbl:=aV hB;simp [bf];refine ay.pure _ (fun _=>DU v m a b (hM.more _)) ?_;simp [bf];refine⟨fun q=> ?_,fun qa qb=> ?_⟩
 ·have hnone:jf v a b=none:=by
   unfold jf;rw [if_neg];rintro⟨c1,c2⟩;rcases q with q | q <;> simp_all
  rw [wH,hnone];exact⟨aF hB _,.tup' (.cons .nil (.cons (.data _ (by simp)) (.cons (.data _ (by simp)) .nil)))⟩
 ·have ea:numOf v a=(bz v a:Int):=by rw [numOf,if_pos qa]
  have eb:numOf v b=(bz v b:Int):=by rw [numOf,if_pos qb]
  rw [ea,eb];refine ay.any (KZ v m b ok qb) ?_;rintro x h2 ⟨⟨L,rfl,hC⟩,rfl⟩;have hll:=hC.ok.len;have hga:=vZ hll qa;have hga':=(zA.1 hga).2;have hpa:=d9 qa;have hlk:=ok.llen;simp [bf,hga,hga',hll,hpa];refine⟨fun c=> ?_,fun c=> ?_⟩
  ·have hnone:jf v a b=none:=M9 ok fun l s h1 h2=>by
    have:=(hC.opt l a s qa h1 h2).1;omega
   rw [wH,hnone];exact⟨aF hB _,.tup' (.cons .nil (.cons (.data _ (by simp)) (.cons (.data _ (by simp)) .nil)))⟩
  ·rw [←hp] at hR ⊢;have hsh:=hC.short ok qa c;have hpb:=d9 qb;have hR1:=hR.more [.cells 1 [aO a]];refine aW.down mixed (fun M fr H=>fr 9= .ptr p 0 0∧fr 10= .int .i64 (bz v a)∧fr 11= .int .i64 (bz v b)∧fr 13= .ro (L.map rR)∧ ∃o x u,fr 14=o∧fr 15= .int .i64 (bz v u)∧iE h H p m v∧Ls 1 (p+1) H o ((a::x).map aO)∧CK v a b L x u∧M=(eO v L u).pts.toNat) (eO v L a).pts.toNat
    ⟨by simp,by simp,by simp,by simp,.own (p+1) 0 1,[],a,by simp,by simp,by simpa [bf,aO] using hR1,Ls.own (es:=[aO a]) (by simp [aO,hp]) (by omega) (by simp) (by simp [aO]),CK.start qa c,rfl⟩ ?_
   clear hR hR1;rintro M fr H ⟨e9,e10,e11,e13,o,x,u,e14,e15,hR,hL,hW,rfl⟩;have hf:=hL.rs.fix;have hxl:=hW.len;have hup:=d9 hW.pt;have hRl:=hR.all.1.2.1;by_cases hub:u=b
   ·subst hub;have hbest:=Na ok qa qb (hW.best ok hC qa);simp [-ae,-ai,-ah,-AV.solid,e9,e10,e11,e13,e14,e15,hf,hga,hga',hll,hpa];rw [wH,hbest];exact⟨by decide,hR.base,.tup' (.cons (hL.frz (by omega) (fZ _)) (.cons (.data _ (by simp)) (.cons (.data _ (by simp)) .nil)))⟩
   ·have hne: ¬(bz v u:Int)=bz v b:=fun e=>hub (iN ok hW.pt qb (by omega));have hrow:=nY (gW hW.pt);have hrl:=(zA.1 hrow).1;have hrow':=(zA.1 hrow).2;have hrlen:=rF v u;have hgu:=vZ hll hW.pt;have hgu':=(zA.1 hgu).2;simp [-ae,-ai,-ah,-AV.solid,bf,hR.all,e9,e10,e11,e13,e14,e15,hf,hne,hrow,hrow',hrl];refine aW.up mixed (rowOf v u).length (fun k fr H=>fr 9= .ptr p 0 0∧fr 10= .int .i64 (bz v a)∧fr 11= .int .i64 (bz v b)∧fr 13= .ro (L.map rR)∧fr 14=o∧fr 15= .int .i64 (bz v u)∧fr 50= .ro ((rowOf v u).map bV)∧fr 51= .int .i64 (rowOf v u).length∧fr 52= .int .i64 k∧
      iE h H p m v∧Ls 1 (p+1) H o ((a::x).map aO)∧ ∀j z,j<k→(lD v u)[j]? =some z→ ¬uU v L z) 0 (by omega)
     ⟨by simp [e9],by simp [e10],by simp [e11],by simp [e13],by simp [e14],by simp [e15],by simp,by simp,by simp,hR,hL,fun j z hj=>by omega⟩ ?_
    clear hR hL e9 e10 e11 e13 e14 e15 hRl;rintro k fr H hk ⟨e9,e10,e11,e13,e14,e15,e50,e51,e52,hR,hL,hno⟩;have hRl:=hR.all.1.2.1;rcases zN k (rowOf v u).length with hlt | hge
    ·obtain⟨r,hr,hr'⟩:=aN hlt;obtain⟨y,y1,rfl,y3,y4⟩:=Ak hr;obtain⟨q1,q2,q3⟩:=ok.ends y y3;have q4:=d9 q2;obtain⟨r1,r2,r3⟩:=ok.rng y y3;have hgd:=vZ hll q2;have hgd':=(zA.1 hgd).2;have ewk:=aB (i:=k) (by omega);have hpd:=gW q2;have hpd':=(zA.1 hpd).2;have hon:=QW (v:=v) (L:=L) y;rw [y4] at hon;have hR1:=hR.more [.cells 3 [bV (bD v y)],.cells 2 [rR (eO v L y.dst)]];have hL1:=hL.more [.cells 3 [bV (bD v y)],.cells 2 [rR (eO v L y.dst)]];have hmiss: ¬uU v L y→ ∀j z,j<k+1→(lD v u)[j]? =some z→ ¬uU v L z:=fun hn j z hj hz=>by
      rcases zN j k with h1 | h1
      ·exact hno j z h1 hz
      ·obtain rfl:j=k:=by omega
       rw [y1] at hz;rw [←Option.some.inj hz];exact hn
     by_cases hd:(eO v L y.dst).pts<0
     ·have hd': ¬0≤(eO v L y.dst).pts:=by omega
      simp [-ae,-ai,-ah,-AV.solid,bf,hR.all,e9,e10,e11,e13,e14,e15,e50,e51,e52,hlt,hr,hr',bD,hgd,hgd',hgu,hgu',hll,q4,hup,ewk,hd,hd'];exact⟨by decide,k+1,by omega,by omega,by omega,hR1,hL1,hmiss fun hc=>hd' hc.1⟩
     ·have hrg:=hC.ok.rng ok q2 (by omega);have ew2:IntKind.i64.wrap ((eO v L y.dst).time+y.min)=(eO v L y.dst).time+y.min:=aD (by omega) (by omega);have ew3:IntKind.i64.wrap ((eO v L y.dst).pts+1)=(eO v L y.dst).pts+1:=aD (by omega) (by omega);have hd':0≤(eO v L y.dst).pts:=by omega
      simp [-ae,-ai,-ah,-AV.solid,bf,hR.all,e9,e10,e11,e13,e14,e15,e50,e51,e52,hlt,hr,hr',bD,hgd,hgd',hgu,hgu',hll,q4,hup,ewk,hd,hd',ew2,ew3,hf,aO,hpd,hpd'];refine⟨by decide,fun c1 c2=> ?_,fun cc=>⟨k+1,by omega,by omega,by omega,hR1,hL1,hmiss fun hc=> ?_⟩⟩
      ·have hyon:uU v L y:=hon.2 ⟨hd',c1,c2⟩;obtain⟨hW1,hW2⟩:=hW.step ok hC y1 hyon hno;refine nT (lo:=p+1) (n:=1) (es:=(a::x).map aO) (ys:=[aO y.dst]) (by simpa [aO,bD] using hL.more [.cells 3 [bV (bD v y)],.cells 2 [rR (eO v L y.dst)],.cells 1 [aO y.dst]]) (by simp;omega) (by simp [bu,aO]) (by simp;omega) ?_;intro s1 H1 hs1 hg1;have hs1f:=hs1.rs.fix;have hR2:=(hR.more [.cells 3 [bV (bD v y)],.cells 2 [rR (eO v L y.dst)],.cells 1 [aO y.dst]]).grow (by simpa [aO,bD] using hg1) hL.above (by omega) (by omega) (by omega);simp [-ae,-ai,-ah,-AV.solid,e9,e10,e11,e13,hs1f];exact⟨(eO v L y.dst).pts.toNat,by omega,x++[y.dst],y.dst,rfl,hR2,by simpa [aO] using hs1,hW1,rfl⟩
      ·exact cc (hon.1 hc).2.1 (hon.1 hc).2.2
    ·exfalso
     obtain⟨z,z1,z2,z3⟩:=hW.exists ok hC hub;obtain⟨j,hj⟩:=List.getElem?_of_mem ((jA v u z).2 ⟨z1,z2⟩);exact hno j z (by have:=aK hj;rw [rowOf,List.length_map] at hge;omega) hj z3
end Go.Proofs.YtkpioblbeiaefaaGreat
end
