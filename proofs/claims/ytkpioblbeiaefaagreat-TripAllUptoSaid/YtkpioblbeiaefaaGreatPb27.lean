/- Part 27 of the lemmas below the statements of this seat: InferA. -/
import Derived.Test.YtkpioblbeiaefaaGreatPb23
import Derived.Test.YtkpioblbeiaefaaGreatPb26
set_option linter.unusedSectionVars false
set_option linter.unusedVariables false
set_option linter.unusedSimpArgs false
set_option linter.unnecessarySimpa false
set_option maxRecDepth 100000
namespace Go.Proofs.YtkpioblbeiaefaaGreat
open Go Go.Abs Go.Toll
variable {gl : aR} {h : ak}
theorem BD (t:bn):aI (aI t)=aI t:=by
 by_cases hz:bZ t=0
 ·have e:aI t=t:=by rw [aI,if_pos hz]
  rw [e,e]
 ·have e:aI t=y9:=by rw [aI,if_neg hz]
  rw [e];rfl
theorem pY (t:bn)(hp:t.net.pts.length≤1000)(hl:t.net.lks.length≤1000)(hs:t.sys.length≤1000):af Tryz.prog gl 115 [.agg (av t)] h fun v h'=>v= .agg (av (aI t))∧h'=h:=by
 refine af.fresh (af.body Tryz.f115 _ mixed Tryz.func115 rfl rfl (by simp [Tryz.ntmps115]) ?_);simp;refine ay.pure _ (fun _=>ve t hp hl hs) ?_;simp;refine⟨fun hz=> ?_,fun hz=> ?_⟩
 ·simp [aI,hz,y9];exact .agg' (.cons .nil (.cons .nil (.cons .nil .nil)))
 ·simp [aI,hz];exact .data _ (by simp)
theorem rX (t:Int):af Tryz.prog gl 140 [.int .i64 t] h fun x h'=>x= .bool (bS t)∧h'=h:=by
 refine af.body Tryz.f140 _ mixed Tryz.func140 rfl rfl (by simp [Tryz.ntmps140]) ?_;simp [bS]
def HZ (v:bv)(a b:Bytes)(s t:Int):AV:= .tup [.ro ((fP v a b s t).1.map aO),.int .i64 (fP v a b s t).2]
theorem Iy {v:bv} (a b:Bytes)(s t:Int):((dD v a b s t).2≠0→(dD v a b s t).1=[])∧((dD v a b s t).2=0→(dD v a b s t).1≠[]):=by
 unfold dD;split
 ·simp
 split
 ·simp
 split
 ·rename_i h;exact⟨fun _=>rfl,fun e=>absurd e h⟩
 split
 ·simp
 ·rename_i h;exact⟨fun e=>absurd rfl e,fun _=>h⟩
theorem Hg (q:List Bytes):(List.take (q.length - 1) (List.map aO q)).tail=(uL q).map aO:=by rw [uL,←List.map_take,List.drop_one,List.map_tail]
set_option maxHeartbeats 2000000 in
theorem Ga (t:bn)(a b:aC)(hp:t.net.pts.length≤1000)(hl:t.net.lks.length≤1000)(hs:t.sys.length≤1000):af Tryz.prog gl 141 [.agg (av t),.agg (aj a),.agg (aj b)] h fun x h'=>x=HZ (aI t).net a.point b.point a.time b.time∧h'=h:=by
 refine af.fresh' (af.body Tryz.f141 _ mixed Tryz.func141 rfl rfl (by simp [Tryz.ntmps141]) ?_);have c1:=fun H:ak=>Fy (gl:=gl) (h:=H) t a b hp hl hs;have ok:=PL t;have h2:=Iy (v:=(aI t).net) a.point b.point a.time b.time;have hat: ∀q∈(dD (aI t).net a.point b.point a.time b.time).1,2≤q.length∧q.length≤16:=fun q hq=>⟨(xN ok hq).2,by obtain⟨l,w,hp,_⟩:=yX ok hq;exact hp.len⟩;unfold lV at c1;unfold HZ fP;generalize dD (aI t).net a.point b.point a.time b.time=R at*;obtain⟨L,E⟩:=R;simp only at c1 h2 hat;simp;refine ay.pure _ (fun _=>c1 _) ?_;by_cases hE:E=0
 ·subst hE;obtain⟨q,r,rfl⟩:=List.exists_cons_of_ne_nil (h2.2 rfl);obtain⟨hq,hq16⟩:=hat q (by simp);have hie:=Hg q;by_cases hr:r=[]
  ·subst hr;have d1: ¬(q.length:Int)<2:=by omega
   have d1': ¬q.length<2:=by omega
   have ew:IntKind.i64.wrap ((q.length:Int) - 1)=((q.length - 1:Nat):Int):=by rw [aD (by omega) (by omega)];omega
   have hin:(List.map aO q).take (q.length - 1)=(q.take (q.length - 1)).map aO:=by rw [List.map_take]
   simp [dJ,d1,d1',ew];rw [hie];refine⟨by decide,⟨fun s _=>rfl,by omega⟩,.data _ ?_⟩;simp;exact fun s hs x hx=>fZ (uL q) (aO s) (List.mem_map_of_mem hs) x hx
  ·have hrl:1<(q::r).length:=by have:=List.length_pos_iff.2 hr;simp;omega
   have hrl':0<r.length:=List.length_pos_iff.2 hr;have hr1:(1:Int)<(r.length:Int)+1:=by omega
   have hr2: ¬((r.length:Int)+1≤1):=by omega
   simp [hrl,hrl',hr1,hr2];exact dz
 ·obtain rfl:=h2.1 hE;simp [hE];exact dz
set_option maxHeartbeats 2000000 in
theorem Gr (t:bn)(a b:aC)(hp:t.net.pts.length≤1000)(hl:t.net.lks.length≤1000)(hs:t.sys.length≤1000):af Tryz.prog gl 116 [.agg (av t),.agg (aj a),.agg (aj b)] h fun x h'=>x=HZ (aI t).net a.point b.point a.time b.time∧h'=h:=by
 refine af.fresh' (af.body Tryz.f116 _ mixed Tryz.func116 rfl rfl (by simp [Tryz.ntmps116]) ?_);have hvl:=eQ t;have c1:=fun H:ak=>Mc (gl:=gl) (h:=H) (aI t) a b (by omega) (by omega) (by omega);rw [BD] at c1;have ok:=PL t;have h2:=Iy (v:=(aI t).net) a.point b.point a.time b.time;have hat: ∀q∈(dD (aI t).net a.point b.point a.time b.time).1,2≤q.length∧q.length≤16:=fun q hq=>⟨(xN ok hq).2,by obtain⟨l,w,hp,_⟩:=yX ok hq;exact hp.len⟩;unfold lV at c1;unfold HZ fP;generalize dD (aI t).net a.point b.point a.time b.time=R at*;obtain⟨L,E⟩:=R;simp only at c1 h2 hat;simp;refine⟨by decide,?_⟩;refine ay.pure _ (fun _=>pY t hp hl hs) ?_;simp;refine ay.pure _ (fun _=>c1 _) ?_;by_cases hE:E=0
 ·subst hE;obtain⟨q,r,rfl⟩:=List.exists_cons_of_ne_nil (h2.2 rfl);obtain⟨hq,hq16⟩:=hat q (by simp);have hie:=Hg q;by_cases hr:r=[]
  ·subst hr;have d1: ¬(q.length:Int)<2:=by omega
   have d1': ¬q.length<2:=by omega
   have ew:IntKind.i64.wrap ((q.length:Int) - 1)=((q.length - 1:Nat):Int):=by rw [aD (by omega) (by omega)];omega
   have hin:(List.map aO q).take (q.length - 1)=(q.take (q.length - 1)).map aO:=by rw [List.map_take]
   simp [dJ,d1,d1',ew];rw [hie];refine⟨by decide,⟨fun s _=>rfl,by omega⟩,.data _ ?_⟩;simp;exact fun s hs x hx=>fZ (uL q) (aO s) (List.mem_map_of_mem hs) x hx
  ·have hrl:1<(q::r).length:=by have:=List.length_pos_iff.2 hr;simp;omega
   have hrl':0<r.length:=List.length_pos_iff.2 hr;have hr1:(1:Int)<(r.length:Int)+1:=by omega
   have hr2: ¬((r.length:Int)+1≤1):=by omega
   simp [hrl,hrl',hr1,hr2];exact dz
 ·obtain rfl:=h2.1 hE;simp [hE];exact dz
def AB (v:bv)(p:List Bytes)(s t:Int):AV:= .tup [.ro ((AA v p s t).1.map jG),.int .i64 (AA v p s t).2]
theorem PK (l:List Int): ∀e∈l.map jG,∀y∈e,y.Data:=by
 intro e he y hy;obtain⟨m,_,rfl⟩:=List.mem_map.1 he;simp [jG] at hy;subst hy;simp
theorem Bz {v:bv} (p:List Bytes)(s t:Int)(h:fF v p 1=0):dR v p s t 0=s:=by rw [dR,h];simp
theorem Fs {v:bv} {p:List Bytes} {s t:Int} {k:Nat} (hs:bS s=true)(ht:bS t=true)(hst:s≤t)(hle:fF v p (k+1)≤fF v p p.length)(h0:1≤fF v p p.length):s≤dR v p s t k∧dR v p s t k≤t:=by
 have h:=part_le (d:=(t - s).toNat) hle h0;unfold dR;generalize (t - s).toNat* fF v p (k+1) / fF v p p.length=P at*;omega
set_option maxHeartbeats 4000000 in
theorem La (t:bn)(p:List Bytes)(a b:Int)(hp:t.net.pts.length≤1000)(hl:t.net.lks.length≤1000)(hs:t.sys.length≤1000)(hpl:p.length≤1000000):af Tryz.prog gl 142 [.agg (av t),.ro (p.map aO),.int .i64 a,.int .i64 b] h fun x h'=>x=AB (aI t).net p a b∧h'=h:=by
 refine af.fresh' (af.body Tryz.f142 _ mixed Tryz.func142 rfl rfl (by simp [Tryz.ntmps142]) ?_);unfold AB AA;by_cases c1:16<p.length
 ·have c1':(16:Int)<p.length:=by omega
  simp [c1,c1'];exact dz
 have c1': ¬(16:Int)<p.length:=by omega
 simp [c1,c1'];refine ay.pure _ (fun _=>rX a) ?_
 cases ha:bS a with
 | false=>
  simp;refine ay.pure (.bool true) (fun c=>by cases c) ?_;simp;exact dz
 | true=>
  simp;refine ay.pure _ (fun _=>rX b) ?_
  cases hb:bS b with
  | false=>
   simp;exact dz
  | true=>
   by_cases hab:b<a
   ·have hab': ¬a≤b:=by omega
    simp [hab,hab'];exact dz
   have hab':a≤b:=by omega
   have ra:=dU ha;have rb:=dU hb;simp [hab,hab'];refine ay.pure _ (fun _=>vD t hp hl hs) ?_;by_cases hz:bZ t=0
   ·have hv:aI t=t:=by rw [aI,if_pos hz]
    have hvn:cO t.net=t.net:=by rw [cO,if_pos (mK hz).1]
    have ok:aY t.net:=vQ (mK hz).1;rw [hv];have c2:=fun (H:ak) (q:List Bytes) (hq:q.length≤1000000)=>rV (gl:=gl) (h:=H) t.net q hp hl hq;rw [hvn] at c2;simp [hz];refine ay.pure _ (fun _=>c2 _ p hpl) ?_;by_cases hE:(bN t.net p).2.2=0
    ·obtain⟨l1,l2,l3,l4,l5⟩:=Cn ok hE (by omega);have htk:=fun k h1 h2=>pI ok hE (k:=k) h1 h2;have c3: ∀(H:ak) (k:Nat),1≤k→k≤p.length→af Tryz.prog gl 170 [.agg (bE t.net),.ro ((p.map aO).take k)] H fun x h'=>x= .tup [.int .i64 (fF t.net p k:Nat),.int .i64 (bN t.net (p.take k)).2.1,.int .i64 0]∧h'=H:=fun H k h1 h2=>by
      have:=c2 H (p.take k) (by simp;omega);obtain⟨t1,t2,_⟩:=htk k h1 h2;rw [t1,t2,List.map_take] at this;exact this
     obtain⟨D,hD⟩: ∃D:Nat,D=(b - a).toNat:=⟨_,rfl⟩;have ewd:IntKind.i64.wrap (b - a)=(D:Int):=by rw [aD (by omega) (by omega)];omega
     have rng: ∀k,1≤k→k<p.length→a≤dR t.net p a b k∧dR t.net p a b k≤b:=fun k h1 h2=>Fs ha hb hab' (htk (k+1) (by omega) (by omega)).2.2 (l3 (by omega));simp [hE];rw [l1];refine aW.up mixed p.length (fun j fr H=>fr 1= .ro (p.map aO)∧fr 2= .int .i64 a∧fr 3= .int .i64 b∧fr 4= .ptr h.length 0 0∧fr 10= .int .i64 (fF t.net p p.length:Nat)∧1≤j∧fr 14= .int .i64 (j+1:Nat)∧H[h.length]? =some (.cells 3 [av t])∧(∃g,H=h++g)∧ ∃x,fr 13=x∧Ls 1 (h.length+1) H x ((mX t.net p a b j).map jG)) 1 l5
      ⟨by simp,by simp,by simp,by simp,by simp,by omega,by simp,by simp,by simp,_,by simp;rfl,?_⟩ ?_
     ·have e0:mX t.net p a b 1=[a]:=by rw [p9,Bz p a b l4];rfl
      rw [e0];exact Ls.own (by simp [jG]) (by omega) rfl (by simp)
     rintro j fr H hj ⟨e1,e2,e3,e4,e10,hj1,e14,hT,hB,x,e13,hx⟩;have hT3:=at3 hT;simp only [av] at hT3;have hxf:=hx.rs.fix;have hlen:=hT3.2.1;have htl:=Fv t.net p a b j;rcases zN j p.length with hlt | hge
     ·have hlt':((j+1:Nat):Int)≤p.length:=by omega
      have hlt2:j+1≤p.length:=by omega
      have ew:IntKind.i64.wrap (((j+1:Nat):Int)+1)=((j+1+1:Nat):Int):=by rw [aD (by omega) (by omega)];omega
      have htn:(((j+1:Nat):Int)).toNat=j+1:=by omega
      have hsuc:=p9 t.net p a b j;have hr:=rng j hj1 hlt;have ewt:IntKind.i64.wrap (a+((D*fF t.net p (j+1) / fF t.net p p.length:Nat):Int))=dR t.net p a b j:=by
       have:a+((D*fF t.net p (j+1) / fF t.net p p.length:Nat):Int)=dR t.net p a b j:=by rw [hD];rfl
       rw [this];exact aD (by omega) (by omega)
      have c5:=fun H:ak=>Ny (gl:=gl) (h:=H) D (fF t.net p (j+1)) (fF t.net p p.length) (by omega) (htk (j+1) (by omega) (by omega)).2.2 (l3 (by omega)) (by omega);simp [-Int.natCast_add,-ae,-ai,-ah,-AV.solid,e1,e2,e3,e4,e10,e14,e13,hlt',hlt2,hT3,hxf,htn];refine⟨by decide,?_⟩;refine⟨fun s _=>rfl,?_⟩;refine ay.pure _ (fun _=>c3 _ (j+1) (by omega) (by omega)) ?_;simp [-Int.natCast_add,-Int.natCast_ediv,-Int.natCast_mul,-ae,-ai,-ah,-AV.solid,e1,e2,e3,e4,e10,e14,e13,hT3,hxf,ewd];refine ay.pure _ (fun _=>c5 _) ?_;simp [-Int.natCast_add,-Int.natCast_ediv,-Int.natCast_mul,-ae,-ai,-ah,-AV.solid,e1,e2,e3,e4,e10,e14,e13,hT3,hxf,ewd,ewt];refine aG (lo:=h.length+1) (n:=1) (es:=(mX t.net p a b j).map jG) (ys:=[jG (dR t.net p a b j)]) (by simpa [jG] using hx.more _) (by simp;omega) (by simp [bu,jG]) (by simp;omega) ?_;intro s1 H1 hs1 hg1 hn1;have hs1f:=hs1.rs.fix;have hB1:=hg1.base h (by omega) (aF hB _);have hT1:=hg1.keep _ _ (aJ hT _) fun off len e=>by have:=hx.above _ _ _ e;omega
      simp [-Int.natCast_add,-Int.natCast_ediv,-Int.natCast_mul,-ae,-ai,-ah,-AV.solid,e1,e2,e3,e4,e10,e14,hs1f,ew];exact⟨j+1,by omega,by omega,by omega,by omega,hT1,hB1,by rw [hsuc];simpa using hs1⟩
     ·have hge': ¬((j+1:Nat):Int)≤p.length:=by omega
      have hge2: ¬j+1≤p.length:=by omega
      obtain rfl:j=p.length:=by omega
      rw [Fu] at hx;simp [-Int.natCast_add,e1,e2,e3,e4,e10,e14,e13,hge',hge2,hxf];exact⟨hB,.tup' (.cons (hx.frz (by omega) (PK _)) (.cons (.data _ (by simp)) .nil))⟩
    ·simp [hE];exact dz
   ·have hv:aI t=y9:=by rw [aI,if_neg hz]
    rw [hv];have hb0: ∀q:List Bytes,bN ⟨[],[]⟩ q=(0,0,16):=fun q=>by
     cases q with
     | nil=>rfl
     | cons x q=>exact um (by simp) ⟨x,by simp,rfl⟩
    have c2:=fun (H:ak)=>rV (gl:=gl) (h:=H) ⟨[],[]⟩ p (by simp) (by simp) hpl;have hvn:cO ⟨[],[]⟩=⟨[],[]⟩:=by decide
    rw [hvn,hb0] at c2;have c3: ∀H:ak,af Tryz.prog gl 170 [.agg [.nil,.nil],.ro (p.map aO)] H fun x h'=>x= .tup [.int .i64 0,.int .i64 0,.int .i64 16]∧h'=H:=fun H=>
     af.lend [] (.cons (.agg' (.cons .nil (.cons .nil .nil))) (.cons (.same _) .nil)) (c2 H)
    have hbt:bN y9.net p=(0,0,16):=hb0 p;simp [hz,hbt];refine ay.pure _ (fun _=>c3 _) ?_;simp;exact dz
set_option maxHeartbeats 4000000 in
theorem Mg (t:bn)(p:List Bytes)(a b:Int)(hp:t.net.pts.length≤1000)(hl:t.net.lks.length≤1000)(hs:t.sys.length≤1000)(hpl:p.length≤1000000):af Tryz.prog gl 117 [.agg (av t),.ro (p.map aO),.int .i64 a,.int .i64 b] h fun x h'=>x=AB (aI t).net p a b∧h'=h:=by
 refine af.fresh' (af.body Tryz.f117 _ mixed Tryz.func117 rfl rfl (by simp [Tryz.ntmps117]) ?_);unfold AB AA;by_cases c1:16<p.length
 ·have c1':(16:Int)<p.length:=by omega
  simp [c1,c1'];exact dz
 have c1': ¬(16:Int)<p.length:=by omega
 simp [c1,c1'];refine ay.pure _ (fun _=>jB a) ?_
 cases ha:bS a with
 | false=>
  simp;refine ay.pure (.bool true) (fun c=>by cases c) ?_;simp;exact dz
 | true=>
  simp;refine ay.pure _ (fun _=>jB b) ?_
  cases hb:bS b with
  | false=>
   simp;exact dz
  | true=>
   by_cases hab:b<a
   ·have hab': ¬a≤b:=by omega
    simp [hab,hab'];exact dz
   have hab':a≤b:=by omega
   have ra:=dU ha;have rb:=dU hb;simp [hab,hab'];refine ay.pure _ (fun _=>pY t hp hl hs) ?_;have hv:=eQ t;have hvn:=oZ t;have ok:=PL t;generalize aI t=V at*;have c2:=fun (H:ak) (q:List Bytes) (hq:q.length≤1000000)=>yT (gl:=gl) (h:=H) V.net q (by omega) (by omega) hq;rw [hvn] at c2;simp;refine ay.pure _ (fun _=>c2 _ p hpl) ?_;by_cases hE:(bN V.net p).2.2=0
   ·obtain⟨l1,l2,l3,l4,l5⟩:=Cn ok hE (by omega);have htk:=fun k h1 h2=>pI ok hE (k:=k) h1 h2;have c3: ∀(H:ak) (k:Nat),1≤k→k≤p.length→af Tryz.prog gl 147 [.agg (bE V.net),.ro ((p.map aO).take k)] H fun x h'=>x= .tup [.int .i64 (fF V.net p k:Nat),.int .i64 (bN V.net (p.take k)).2.1,.int .i64 0]∧h'=H:=fun H k h1 h2=>by
     have:=c2 H (p.take k) (by simp;omega);obtain⟨t1,t2,_⟩:=htk k h1 h2;rw [t1,t2,List.map_take] at this;exact this
    obtain⟨D,hD⟩: ∃D:Nat,D=(b - a).toNat:=⟨_,rfl⟩;have ewd:IntKind.i64.wrap (b - a)=(D:Int):=by rw [aD (by omega) (by omega)];omega
    have rng: ∀k,1≤k→k<p.length→a≤dR V.net p a b k∧dR V.net p a b k≤b:=fun k h1 h2=>Fs ha hb hab' (htk (k+1) (by omega) (by omega)).2.2 (l3 (by omega));simp [hE];rw [l1];refine aW.up mixed p.length (fun j fr H=>fr 1= .ro (p.map aO)∧fr 2= .int .i64 a∧fr 3= .int .i64 b∧fr 10= .ptr (h.length+1) 0 0∧fr 11= .int .i64 (fF V.net p p.length:Nat)∧1≤j∧fr 15= .int .i64 j∧H[h.length+1]? =some (.cells 2 [bE V.net])∧(∃g,H=h++g)∧ ∃x,fr 14=x∧Ls 1 (h.length+2) H x ((mX V.net p a b j).map jG)) 1 l5
     ⟨by simp,by simp,by simp,by simp,by simp,by omega,by simp,by simp,by simp,_,by simp;rfl,?_⟩ ?_
    ·have e0:mX V.net p a b 1=[a]:=by rw [p9,Bz p a b l4];rfl
     rw [e0];exact Ls.own (by simp [jG]) (by omega) rfl (by simp)
    rintro j fr H hj ⟨e1,e2,e3,e10,e11,hj1,e15,hT,hB,x,e14,hx⟩;have hT3:=at3 hT;simp only [bE] at hT3;have hxf:=hx.rs.fix;have hlen:=hT3.2.1;have htl:=Fv V.net p a b j;rcases zN j p.length with hlt | hge
    ·have hlt2:j+1≤p.length:=by omega
     have ew:IntKind.i64.wrap ((j:Int)+1)=((j+1:Nat):Int):=aB (by omega);have htn:(((j+1:Nat):Int)).toNat=j+1:=by omega
     have hlt':((j+1:Nat):Int)≤p.length:=by omega
     have hsuc:=p9 V.net p a b j;have hr:=rng j hj1 hlt;have ewt:IntKind.i64.wrap (a+((D*fF V.net p (j+1) / fF V.net p p.length:Nat):Int))=dR V.net p a b j:=by
      have:a+((D*fF V.net p (j+1) / fF V.net p p.length:Nat):Int)=dR V.net p a b j:=by rw [hD];rfl
      rw [this];exact aD (by omega) (by omega)
     have c5:=fun H:ak=>Oe (gl:=gl) (h:=H) D (fF V.net p (j+1)) (fF V.net p p.length) (by omega) (htk (j+1) (by omega) (by omega)).2.2 (l3 (by omega)) (by omega);simp [-Int.natCast_add,-ae,-ai,-ah,-AV.solid,e1,e2,e3,e10,e11,e14,e15,hlt,hlt',hlt2,hT3,hxf,htn,ew];refine⟨by decide,?_⟩;refine⟨fun s _=>rfl,?_⟩;refine ay.pure _ (fun _=>c3 _ (j+1) (by omega) (by omega)) ?_;simp [-Int.natCast_add,-Int.natCast_ediv,-Int.natCast_mul,-ae,-ai,-ah,-AV.solid,e1,e2,e3,e10,e11,e14,e15,hT3,hxf,ewd,ew];refine ay.pure _ (fun _=>c5 _) ?_;simp [-Int.natCast_add,-Int.natCast_ediv,-Int.natCast_mul,-ae,-ai,-ah,-AV.solid,e1,e2,e3,e10,e11,e14,e15,hT3,hxf,ewd,ewt,ew];refine aG (lo:=h.length+2) (n:=1) (es:=(mX V.net p a b j).map jG) (ys:=[jG (dR V.net p a b j)]) (by simpa [jG] using hx.more _) (by simp;omega) (by simp [bu,jG]) (by simp;omega) ?_;intro s1 H1 hs1 hg1 hn1;have hs1f:=hs1.rs.fix;have hB1:=hg1.base h (by omega) (aF hB _);have hT1:=hg1.keep _ _ (aJ hT _) fun off len e=>by have:=hx.above _ _ _ e;omega
     simp [-Int.natCast_add,-Int.natCast_ediv,-Int.natCast_mul,-ae,-ai,-ah,-AV.solid,e1,e2,e3,e10,e11,e15,hs1f,ew];exact⟨j+1,by omega,by omega,by omega,by omega,hT1,hB1,by rw [hsuc];simpa using hs1⟩
    ·have hge': ¬(j:Int)<p.length:=by omega
     obtain rfl:j=p.length:=by omega
     rw [Fu] at hx;simp [-Int.natCast_add,e1,e2,e3,e10,e11,e14,e15,hge',hxf];exact⟨hB,.tup' (.cons (hx.frz (by omega) (PK _)) (.cons (.data _ (by simp)) .nil))⟩
   ·simp [hE];exact dz
end Go.Proofs.YtkpioblbeiaefaaGreat
namespace Go.Proofs.YtkpioblbeiaefaaGreat
open Go Go.Abs Go.Toll
variable {gl : aR} {h : ak}
theorem QC (t:bn)(s:Bytes):kindOf t s=0↔aL (aI t).net.pts s=false:=by
 rw [kindOf,bH,if_pos (fC t)]
 cases hf:(aI t).net.pts.find? fun p=>decide (p.name=s) with
 | none=>
  refine⟨fun _=> ?_,fun _=>rfl⟩;rw [aL,List.any_eq_false];intro p hp;simpa using List.find?_eq_none.1 hf p hp
 | some p=>
  have hm:=List.mem_of_find?_eq_some hf;have he:=List.find?_some hf;have h1:=(kY (fC t) p hm).2.1;have:aL (aI t).net.pts s=true:=by rw [aL,List.any_eq_true];exact⟨p,hm,he⟩
  rw [this];simp;omega
theorem O7 {P:Program} {t u:TypeId} {n b off len:Nat} {H:ak} {x:AV} {es ys:List (List AV)} {k:AV→ak→Prop} (r:Rs n H x ys)(hk:match (ax P t).kind with | .slice e=>(ax P e).ok=true∧(ax P e).cells=n∧0<n | _=>False)
  (hb:H[b]? =some (.cells n es)) (ho:off+len≤es.length) (hl:ys.length≤len) (hc:k (.int .i64 ys.length) (H.set b (.cells n (es.take off++ys++es.drop (off+ys.length))))):uB P H [t,u] (.own b off len) x∧uA n H (.own b off len) x k:=by
 have hcb:hcells H b=es:=by rw [hcells,hb]
 have hsb:hsz H b=n:=by rw [hsz,hb]
 unfold uB uA;simp only;split at hk
 ·obtain⟨h1,h2,h3⟩:=hk;simp only [*];rw [r.aelems];exact⟨⟨trivial,trivial,r.slOk,r.len,trivial,trivial,hl⟩,hc⟩
 ·exact hk.elim
theorem Lb (t:bn)(l:List aC)(hp:t.net.pts.length≤1000)(hl:t.net.lks.length≤1000)(hs:t.sys.length≤1000)(hn:l.length≤1000000):af Tryz.prog gl 107 [.agg (av t),.ro (l.map aj)] h fun x h'=>x= .int .i64 (gT (aI t).net l)∧h'=h:=by
 refine af.data (by simp) (af.body Tryz.f107 _ mixed Tryz.func107 rfl rfl (by simp [Tryz.ntmps107]) ?_);by_cases c1:1024<l.length
 ·have c1':(1024:Int)<l.length:=by omega
  simp [gT,c1,c1']
 have c1': ¬(1024:Int)<l.length:=by omega
 simp [gT,c1,c1'];refine aW.up mixed l.length (fun i fr H=>fr 1= .ro (l.map aj)∧fr 2= .ptr h.length 0 0∧fr 10= .ro (l.map aj)∧fr 11= .int .i64 l.length∧fr 12= .int .i64 i∧gP (aI t).net none l=gP (aI t).net (yg l i) (l.drop i)∧ ∃g,H=h++ .cells 3 [av t]::g) 0 (by omega)
  ⟨by simp,by simp,by simp,by simp,by simp,by simp [yg],[],by simp⟩ ?_
 rintro i fr H hi ⟨e1,e2,e10,e11,e12,he,g,rfl⟩;rw [he];rcases zN i l.length with hlt | hge
 ·obtain⟨p,hg,hg'⟩:=aN hlt;have ew:=aB (i:=i) (by omega);have hk:=QC t p.point;rw [nQ hg] at he ⊢;simp [e1,e2,e10,e11,e12,hlt,hg,hg',ew];refine ay.pure _ (fun _=>jV t p.point hp hl hs) ?_
  cases hpt:aL (aI t).net.pts p.point with
  | false=>
   rw [hpt] at hk;simp [hk.2 rfl]
  | true=>
   rw [hpt] at hk;have hk0: ¬kindOf t p.point=0:=fun c=>by simpa using hk.1 c
   simp [hk0];refine ay.pure _ (fun _=>rX p.time) ?_
   cases hti:bS p.time with
   | false=>simp
   | true=>
    simp
    cases i with
    | zero=>
     simp [yg,e1,e2,e10,e11,e12,hg];refine⟨by decide,?_⟩;exact⟨1,by omega,by omega,by decide,by simp [hg]⟩
    | succ j=>
     obtain⟨q,hq,hq'⟩:=aN (l:=l) (i:=j) (by omega);have hj:j<l.length:=by omega
     have w1:IntKind.i64.wrap (((j+1:Nat):Int) - 1)=(j:Int):=by rw [aD (by omega) (by omega)];omega
     have w1':IntKind.i64.wrap ((j:Int)+1 - 1)=(j:Int):=by rw [aD (by omega) (by omega)];omega
     have hpos:(0:Int)<(j:Int)+1:=by omega
     have w0:IntKind.i64.wrap (j:Int)=(j:Int):=aD (by omega) (by omega);have w2:IntKind.i64.wrap ((j:Int)+1+1)=((j+1+1:Nat):Int):=by rw [aD (by omega) (by omega)];omega
     simp [yg,e1,e2,e10,e11,e12,hg,hq,hq',hj,w1,w1',hpos,w0,w2];exact⟨by decide,fun c d=>by omega,fun c=>⟨j+1+1,by omega,by omega,by omega,by rw [if_neg (by omega)];simp [hg]⟩⟩
 ·obtain rfl:i=l.length:=by omega
  simp [e1,e2,e10,e11,e12,gP]
theorem DX {a b:List (List AV)} {x y:AV} (hx:Rs 3 h x a)(hy:Rs 3 h y b)(ha:a.length≤1000000)(hb:b.length≤1000000):af Tryz.prog gl 109 [x,y] h fun v h'=>v= .own h.length 0 (a.length+b.length)∧h'=h++[.cells 3 (a++b)]:=by
 refine af.body Tryz.f109 _ mixed Tryz.func109 rfl rfl (by simp [Tryz.ntmps109]) ?_;have fx:=hx.fix;have fy:=hy.fix;have lx:=hx.len2;have ly:=hy.len2;have ew:IntKind.i64.wrap ((a.length:Int)+(b.length:Int))=((a.length+b.length:Nat):Int):=by rw [aD (by omega) (by omega)];omega
 simp [-uB,-uA,-Int.natCast_add,fx,fy,lx,ly,ew];refine⟨by omega,?_⟩;obtain⟨Z,hZ⟩: ∃Z:List (List AV),Z=List.replicate (a.length+b.length) [AV.str [],AV.int IntKind.i64 0,AV.str []]:=⟨_,rfl⟩;have hZl:Z.length=a.length+b.length:=by rw [hZ];simp
 rw [←hZ];refine O7 (es:=Z) (hx.append _) (by simp) (by simp) (by omega) (by omega) ?_;have hy2:=hy.append [.cells 3 (a++Z.drop a.length)];have ly2:=hy2.len2;have hl1:(a.length:Int)≤((a.length+b.length:Nat):Int):=by omega
 have hdl:(Z.drop a.length).length=b.length:=by rw [List.length_drop];omega
 simp [-uB,-uA,-Int.natCast_add,fx,fy,lx,ly,ly2,hl1,hdl];refine O7 (es:=a++Z.drop a.length) hy2 (by simp) (by simp) (by simp [hdl]) (by omega) ?_;simp [hdl];omega
theorem ZY:List.range 10=[0,1,2,3,4,5,6,7,8,9]:=rfl
def U9:Nat→Option ug:=fun id=>if id=4 then some (.perm [([0,1,2,3,4,5,6,7,8,9],[(6,0),(6,3)]),([0,1,2,3,5,6,7,4,8,9],[(5,0)]),([0,1,3,5,6,7,2,4,8,9],[(1,6)])]) else none
theorem LM {P:Program} {N:Nat} {ops:Array Oper} {K:aP→ak→Prop} {fr:aP} {h:ak} {ps:List (List Nat×List (Nat×Nat))} (I:aP→ak→Prop)(h0:I fr h)(k: ∀fr h,I fr h→lc P gl N ops K fr h ps):lc P gl N ops K fr h ps:=k fr h h0
theorem PD {v:bv} {a b:Bytes} {s t:Int} (h:(fP v a b s t).2≠0):(fP v a b s t).1=[]:=by
 unfold fP at h ⊢;split
 ·rfl
 ·split
  ·rfl
  ·rename_i h1 h2;rw [if_neg h1,if_neg h2] at h;exact absurd rfl h
theorem Fw {v:bv} {p:List Bytes} {s t:Int} {k:Nat} (h:k<p.length):(oW v p s t)[k]? =some (dR v p s t k):=by simp [oW,h]
theorem Fx (v:bv)(p:List Bytes)(s t:Int):(oW v p s t).length=p.length:=by simp [oW]
set_option maxHeartbeats 8000000 in
theorem Gb (t:bn)(a b:aC)(hp:t.net.pts.length≤1000)(hl:t.net.lks.length≤1000)(hs:t.sys.length≤1000):af Tryz.prog gl 108 [.agg (av t),.agg (aj a),.agg (aj b)] h fun x h'=>Ls 3 h.length h' x ((ni (aI t).net a b).map aa)∧ ∃g,h'=h++g:=by
 refine af.bodyN U9 Tryz.f108 _ mixed Tryz.func108 rfl rfl (by simp [Tryz.ntmps108]) ?_;have ok:=PL t;have c1:=fun H:ak=>Ga (gl:=gl) (h:=H) t a b hp hl hs;have c2:=fun (H:ak) (p:List Bytes)=>La (gl:=gl) (h:=H) t p a.time b.time hp hl hs;have hnz:=fun h=>PD (v:=(aI t).net) (a:=a.point) (b:=b.point) (s:=a.time) (t:=b.time) h;have hok:=fun h=>yH ok (a:=a.point) (b:=b.point) (s:=a.time) (t:=b.time) h;unfold HZ at c1;unfold ni;generalize fP (aI t).net a.point b.point a.time b.time=M at*;obtain⟨m,E⟩:=M;simp only at c1 hnz hok;simp [U9,-bA];refine ay.pure _ (fun _=>c1 _) ?_;by_cases hE:E=0
 ·subst hE;obtain⟨o1,o2,o3,o4,o5,o6,_⟩:=hok rfl;by_cases hm:m=[]
  ·subst hm;simp [lC];exact Ls.nil
  ·have hm1:0<m.length:=List.length_pos_iff.2 hm;have hm2:m.length≤14:=by simp at o2;omega
   have hm3: ¬((m.length:Int)=0):=by omega
   obtain⟨path,hpath⟩: ∃path,path=a.point::(m++[b.point]):=⟨_,rfl⟩;have hpl:path.length=m.length+2:=by rw [hpath];simp
   rw [←hpath] at o1 o2 o6;simp [hm,hm3,-bA];rw [bA];simp only [U9,if_true];refine⟨by decide,?_⟩;generalize hK:iY _ _ Exit.normal=K;have key: ∀fr' h' x,fr' 3= .ptr h.length 0 0→fr' 4= .ptr (h.length+1) 0 0→fr' 5= .ptr (h.length+2) 0 0→fr' 7= .ro (m.map aO)→fr' 9=x→Ls 1 (h.length+3) h' x (path.map aO)→
     h'[h.length]? =some (.cells 3 [av t])→h'[h.length+1]? =some (.cells 8 [aj a])→h'[h.length+2]? =some (.cells 8 [aj b])→(∃g,h'=h++g)→K fr' h':=by
    rintro fr H x e3 e4 e5 e7 e9 hx hT hA hB hBase;rw [←hK];have hT3:=at3 hT;have hA3:=at3 hA;have hB3:=at3 hB;simp only [av,dK] at hT3 hA3 hB3;have hlen:=hB3.2.1;have hxf:=hx.rs.fix;obtain⟨ks,hks,hfr⟩:=hx.lend;simp [-ae,-ai,-ah,-AV.solid,e3,e4,e5,e7,e9,hT3,hA3,hB3,hxf];have hbk: ∀b∈ks,h.length≤b:=fun b hb=>by have:=(hks b hb).1;omega
    have hcall: ∀H':ak,af Tryz.prog gl 142 [.agg (av t),.ro (path.map aO),.int .i64 a.time,.int .i64 b.time] H' fun x h'=>x= .tup [.ro ((oW (aI t).net path a.time b.time).map jG),.int .i64 0]∧h'=H':=fun H'=>by
     have:=c2 H' path (by omega);rw [AB,o6] at this;exact this
    refine ay.any (af.lend ks (.cons (.same _) (.cons hfr (.cons (.same _) (.cons (.same _) .nil)))) (hcall _)) ?_;rintro r H2 ⟨rfl,rfl⟩;have hBase2: ∃g,killL H ks=h++g:=by obtain⟨g,e⟩:=hBase;rw [e];exact jk ks h g hbk
    obtain⟨H3,hH3⟩: ∃H3,H3=killL H ks:=⟨_,rfl⟩;rw [←hH3] at hBase2 ⊢;have hlen2:H3.length=H.length:=by rw [hH3];exact iT _ _
    have htl:=Fx (aI t).net path a.time b.time;obtain⟨TL,hTL⟩: ∃TL,TL=oW (aI t).net path a.time b.time:=⟨_,rfl⟩;rw [←hTL] at htl ⊢;have htg: ∀k,k<path.length→TL[k]? =some (dR (aI t).net path a.time b.time k):=fun k hk=>by rw [hTL];exact Fw hk
    simp [-ae,-ai,-ah,-AV.solid,e3,e4,e5,e7];refine aW.upN U9 mixed m.length (fun k fr H=>fr 49= .ro (m.map aO)∧fr 50= .int .i64 m.length∧fr 51= .int .i64 k∧fr 10= .ro (TL.map jG)∧(∃g,H=h++g)∧ ∃x,fr 11=x∧Ls 3 h.length H x ((lC (aI t).net m a b k).map aa)) 0 (by omega)
     ⟨by simp,by simp,by simp,by simp,hBase2,_,by simp;rfl,by simpa [lC] using Ls.nil⟩ ?_
    rintro k fr H hk ⟨f49,f50,f51,f10,hBa,y,f11,hy⟩;have hyf:=hy.rs.fix;have hyl:=zt (aI t).net m a b k;rcases zN k m.length with hlt | hge
    ·obtain⟨q,hq,hq'⟩:=aN hlt;have ew:=aB (i:=k) (by omega);have hqd:m.getD k []=q:=by rw [List.getD_eq_getElem?_getD,hq];rfl
     have hsuc:=CY (aI t).net m a b k;rw [hqd,←hpath] at hsuc;have ht2:=htg (k+1) (by omega);have ht2':=(zA.1 ht2).2;have hkl:k+1<TL.length:=by omega
     have hlh:=aV hBa;simp [-Int.natCast_add,-ae,-ai,aO,jG,f49,f50,f51,f10,f11,hlt,hq,hq',ew,ht2,ht2',hkl,hyf];refine aG (lo:=h.length) (n:=3) (es:=(lC (aI t).net m a b k).map aa) (ys:=[aa ⟨q,dR (aI t).net path a.time b.time (k+1),[]⟩]) (by simpa [aa] using hy.more _) (by simp;omega) (by simp [bu,aa]) (by simp;omega) ?_;intro s1 H1 hs1 hg1 hn1;have hs1f:=hs1.rs.fix;have hB1:=hg1.base h (by omega) (aF hBa _);simp [-Int.natCast_add,-ae,-ai,-ah,-AV.solid,f49,f50,f51,f10,hs1f,ew];exact⟨k+1,by omega,by omega,by omega,hB1,by rw [hsuc];simpa using hs1⟩
    ·obtain rfl:k=m.length:=by omega
     simp [f49,f50,f51,f10,f11,hyf];exact⟨hy,hBa⟩
   refine LM (fun F H=>F 3= .ptr h.length 0 0∧F 4= .ptr (h.length+1) 0 0∧F 5= .ptr (h.length+2) 0 0∧F 7= .ro (m.map aO)∧H.length=h.length+3∧H[h.length]? =some (.cells 3 [av t])∧H[h.length+1]? =some (.cells 8 [aj a])∧H[h.length+2]? =some (.cells 8 [aj b])∧ ∃g,H=h++g) ⟨by simp,by simp,by simp,by simp,by simp,by simp,by simp,by simp,_,rfl⟩ ?_;rintro F H ⟨f3,f4,f5,f7,hlH,hT,hA,hB,hBase⟩;have hT3:=at3 hT;have hA3:=at3 hA;have hB3:=at3 hB;simp only [av,dK] at hT3 hA3 hB3;rw [aA,aA,aA];have ep:path.map aO=[aO a.point]++m.map aO++[aO b.point]:=by rw [hpath];simp
   refine⟨⟨by decide+kernel,?_⟩,⟨by decide+kernel,?_⟩,⟨by decide+kernel,?_⟩,trivial⟩
   ·simp [-ae,-ai,bi,dC,dw,dh,bW,ZY,f3,f4,f5,f7,hT3,hA3,hB3,hlH];refine aG (lo:=h.length+3) (n:=1) (es:=[aO a.point]) (ys:=m.map aO) (Ls.own (by simp [hlH,aO]) (by omega) rfl (by simp [aO])) (by simp;omega) (by simp [bu,aO]) (by simp;omega) ?_;intro s1 H1 hs1 hg1 hn1;have hs1f:=hs1.rs.fix;have hT1:=hg1.keep _ _ (aJ hT _) fun off len e=>by simp at e
    have hA1:=hg1.keep _ _ (aJ hA _) fun off len e=>by simp at e
    have hB1:=hg1.keep _ _ (aJ hB _) fun off len e=>by simp at e
    have hBa:=hg1.base h (by omega) (aF hBase _);have hB13:=at3 hB1;simp only [dK] at hB13;have hl1:=aV hBa;simp [-ae,-ai,f3,f4,f5,f7,hs1f,hB13];refine aG (lo:=h.length+3) (n:=1) (es:=[aO a.point]++m.map aO) (ys:=[aO b.point]) (by simpa using hs1.more _) (by simp;omega) (by simp [bu,aO]) (by simp;omega) ?_;intro s2 H2 hs2 hg2 hn2;have hs2f:=hs2.rs.fix;have hne: ∀b,b<h.length+3→ ∀off len,s1≠ .own b off len:=fun b hb off len e=>by have:=hs1.above _ _ _ e;omega
    have hT2:=hg2.keep _ _ (aJ hT1 _) (hne _ (by omega));have hA2:=hg2.keep _ _ (aJ hA1 _) (hne _ (by omega));have hB2:=hg2.keep _ _ (aJ hB1 _) (hne _ (by omega));have hBa2:=hg2.base h (by omega) (aF hBa _);simp [-ae,-ai,f3,f4,f5,f7,hs2f,hB3];exact key _ _ s2 (by simp [f3]) (by simp [f4]) (by simp [f5]) (by simp [f7]) (by simp) (by rw [ep];exact hs2) hT2 hA2 hB2 hBa2
   ·simp [-ae,-ai,bi,dC,dw,dh,bW,ZY,f3,f4,f5,f7,hT3,hA3,hB3,hlH];refine aG (lo:=h.length+3) (n:=1) (es:=[aO a.point]) (ys:=m.map aO) (Ls.own (by simp [hlH,aO]) (by omega) rfl (by simp [aO])) (by simp;omega) (by simp [bu,aO]) (by simp;omega) ?_;intro s1 H1 hs1 hg1 hn1;have hs1f:=hs1.rs.fix;have hne0: ∀b,b≠h.length+3→ ∀off len,AV.own (h.length+3) 0 1≠ .own b off len:=fun b hb off len e=>by injection e;omega
    have hT1:=hg1.keep _ _ (aJ hT _) (hne0 _ (by omega));have hA1:=hg1.keep _ _ (aJ hA _) (hne0 _ (by omega));have hB1:=hg1.keep _ _ (aJ hB _) (hne0 _ (by omega));have hC1:=hg1.keep (h.length+4) (.cells 1 [[.str b.point]]) (by simp [hlH]) (hne0 _ (by omega));have hC13:=at3 hC1;have hBa:=hg1.base h (by omega) (aF hBase _);have hl1:=aV hBa;simp [-ae,-ai,f3,f4,f5,f7,hs1f];refine aG (lo:=h.length+3) (n:=1) (es:=[aO a.point]++m.map aO) (ys:=[aO b.point]) hs1 (by have:=hC13.2.1;omega) (by simp [bu,aO,hC13]) (by simp;omega) ?_;intro s2 H2 hs2 hg2 hn2;have hs2f:=hs2.rs.fix;have hne: ∀b,b<h.length+3→ ∀off len,s1≠ .own b off len:=fun b hb off len e=>by have:=hs1.above _ _ _ e;omega
    have hT2:=hg2.keep _ _ hT1 (hne _ (by omega));have hA2:=hg2.keep _ _ hA1 (hne _ (by omega));have hB2:=hg2.keep _ _ hB1 (hne _ (by omega));have hBa2:=hg2.base h (by omega) hBa;simp [-ae,-ai,f3,f4,f5,f7,hs2f,hT3,hA3,hB3,hlH];exact key _ _ s2 (by simp [f3]) (by simp [f4]) (by simp [f5]) (by simp [f7]) (by simp) (by rw [ep];exact hs2) hT2 hA2 hB2 hBa2
   ·simp [-ae,-ai,bi,dC,dw,dh,bW,ZY,f3,f4,f5,f7,hT3,hA3,hB3,hlH];refine aG (lo:=h.length+3) (n:=1) (es:=[aO a.point]) (ys:=m.map aO) (Ls.own (by simp [hlH,aO]) (by omega) rfl (by simp [aO])) (by simp;omega) (by simp [bu,aO]) (by simp;omega) ?_;intro s1 H1 hs1 hg1 hn1;have hs1f:=hs1.rs.fix;have hne0: ∀b,b≠h.length+3+1→ ∀off len,AV.own (h.length+3+1) 0 1≠ .own b off len:=fun b hb off len e=>by injection e;omega
    have hT1:=hg1.keep _ _ (aJ hT _) (hne0 _ (by omega));have hA1:=hg1.keep _ _ (aJ hA _) (hne0 _ (by omega));have hB1:=hg1.keep _ _ (aJ hB _) (hne0 _ (by omega));have hC1:=hg1.keep (h.length+3) (.cells 1 [[.str b.point]]) (by simp [hlH]) (hne0 _ (by omega));have hC13:=at3 hC1;have hBa:=hg1.base h (by omega) (aF hBase _);have hl1:=aV hBa;simp [-ae,-ai,f3,f4,f5,f7,hs1f];refine aG (lo:=h.length+3) (n:=1) (es:=[aO a.point]++m.map aO) (ys:=[aO b.point]) hs1 (by have:=hC13.2.1;omega) (by simp [bu,aO,hC13]) (by simp;omega) ?_;intro s2 H2 hs2 hg2 hn2;have hs2f:=hs2.rs.fix;have hne: ∀b,b<h.length+3→ ∀off len,s1≠ .own b off len:=fun b hb off len e=>by have:=hs1.above _ _ _ e;omega
    have hT2:=hg2.keep _ _ hT1 (hne _ (by omega));have hA2:=hg2.keep _ _ hA1 (hne _ (by omega));have hB2:=hg2.keep _ _ hB1 (hne _ (by omega));have hBa2:=hg2.base h (by omega) hBa;simp [-ae,-ai,f3,f4,f5,f7,hs2f,hT3,hA3,hB3,hlH];exact key _ _ s2 (by simp [f3]) (by simp [f4]) (by simp [f5]) (by simp [f7]) (by simp) (by rw [ep];exact hs2) hT2 hA2 hB2 hBa2
 ·obtain rfl:=hnz hE;simp [hE];exact Ls.nil
end Go.Proofs.YtkpioblbeiaefaaGreat
namespace Go.Proofs.YtkpioblbeiaefaaGreat
open Go Go.Abs Go.Toll
variable {gl : aR} {h : ak}
def Au (v:bv)(l:List aC):AV:= .tup [.ro ((fV v l).1.map aa),.int .i64 (fV v l).2]
theorem Fe (l:List bq): ∀e∈l.map aa,∀y∈e,y.Data:=by
 intro e he y hy;obtain⟨m,_,rfl⟩:=List.mem_map.1 he;simp [aa] at hy;rcases hy with rfl | rfl | rfl <;> simp
def Y4:Nat→Option (Nat×List (Nat×Nat)):=fun id=>if id=10 then some (7,[]) else none
set_option maxHeartbeats 4000000 in
theorem K9 (t:bn)(l:List aC)(hp:t.net.pts.length≤1000)(hl:t.net.lks.length≤1000)(hs:t.sys.length≤1000)(hn:l.length≤1000000):af Tryz.prog gl 76 [.agg (av t),.ro (l.map aj)] h fun x h'=>x=Au (aI t).net l∧h'=h:=by
 refine af.fresh' (af.bodyM Y4 Tryz.f76 _ mixed Tryz.func76 rfl rfl (by simp [Tryz.ntmps76]) ?_);unfold Au fV;have hlim:gT (aI t).net l=0→l.length≤1024:=fun h=>by
  unfold gT at h;split at h
  ·cases h
  ·omega
 simp [Y4];refine ay.pure _ (fun _=>Lb t l hp hl hs hn) ?_;have ok:=PL t;have c2:=fun (H:ak) (a b:aC)=>Gb (gl:=gl) (h:=H) t a b hp hl hs;by_cases hE:gT (aI t).net l=0
 ·have hl2:=hlim hE;simp [hE];refine aW.upM Y4 mixed l.length (fun i fr H=>fr 1= .ro (l.map aj)∧fr 2= .ptr h.length 0 0∧fr 17= .ro (l.map aj)∧fr 18= .int .i64 l.length∧fr 19= .int .i64 i∧H[h.length]? =some (.cells 3 [av t])∧(∃g,H=h++g)∧ ∃x,fr 7=x∧Ls 3 (h.length+1) H x ((dP (aI t).net l i).map aa)) 0 (by omega)
   ⟨by simp,by simp,by simp,by simp,by simp,by simp,⟨_,rfl⟩,_,by simp;rfl,by simpa [dP] using Ls.nil⟩ ?_
  rintro i fr H hi ⟨e1,e2,e17,e18,e19,hT,hB,x,e7,hx⟩;have hT3:=at3 hT;simp only [av] at hT3;have hxf:=hx.rs.fix;have hlen:=hT3.2.1;have hsl:=sV ok (l:=l) i;rcases zN i l.length with hlt | hge
  ·obtain⟨p,hg,hg'⟩:=aN hlt;have ew:=aB (i:=i) (by omega)
   cases i with
   | zero=>
    simp [Y4,-ae,-ai,e1,e2,e7,e17,e18,e19,hlt,hg,hg',hT3,hxf];refine aG (lo:=h.length+1) (n:=3) (es:=([]:List bq).map aa) (ys:=[aa (iX p)]) (by simpa [aa] using Ls.nil) (by simp <;> omega) (by simp [bu,aa,iX]) (by simp <;> omega) ?_;intro s1 H1 hs1 hg1 hn1;have hs1f:=hs1.rs.fix;have hx1:=(hx.more _).grow hg1 (by simp);have hT1:=hg1.keep _ _ (aJ hT _) (by simp);have hB1:=hg1.base h (by omega) (aF hB _);have hl1:=aV hB1;have hl2:=aK hT1;simp [-ae,-ai,-List.map_append,e1,e2,e7,e17,e18,e19,hs1f,hxf];refine ay.any (DX hx1.rs hs1.rs (by simp <;> omega) (by simp <;> omega)) ?_;rintro v H2 ⟨rfl,rfl⟩;simp [-ae,-ai,-List.map_append,e1,e2,e7,e17,e18,e19,ew];have e0:dP (aI t).net l 1=[iX p]:=Bv hg;refine⟨1,by omega,by omega,by decide,?_,aF hB1 _,?_⟩
    ·rw [if_pos (by omega)];exact hT1
    rw [e0];exact Ls.own (by simp [dP]) (by omega) (by simp [dP]) (by simp)
   | succ j=>
    obtain⟨q,hq,hq'⟩:=aN (l:=l) (i:=j) (by omega);have hj:j<l.length:=by omega
    have w1':IntKind.i64.wrap ((j:Int)+1 - 1)=(j:Int):=by rw [aD (by omega) (by omega)];omega
    have w0:IntKind.i64.wrap (j:Int)=(j:Int):=aD (by omega) (by omega);have w2:IntKind.i64.wrap ((j:Int)+1+1)=((j+1+1:Nat):Int):=by rw [aD (by omega) (by omega)];omega
    have hlt':(j:Int)+1<l.length:=by omega
    have hn0:(0:Int)≤(j:Int)+1:=by omega
    have ewz:IntKind.i64.wrap ((j:Int)+1)=(j:Int)+1:=aD (by omega) (by omega);simp [Y4,au,-ae,-ai,e1,e2,e7,e17,e18,e19,hlt',hlt,hg,hg',hT3,hxf,hq,hq',hj,w1',w0,w2,hn0];refine⟨by decide,?_⟩;have c3:=c2 (H++[cZ.cells 8 [aj p]]) q p;simp only [dK,av] at c3;refine ay.any c3 ?_;rintro y H0 ⟨hy,g,hH0⟩;have hbl:=zu ok q p;have hyf:=hy.rs.fix;have hx0:Ls 3 (h.length+1) H0 x ((dP (aI t).net l (j+1)).map aa):=by rw [hH0,zK];exact hx.more _
    have hT0:H0[h.length]? =some (.cells 3 [av t]):=by rw [hH0,zK];exact aJ hT _
    have hP0:H0[H.length]? =some (.cells 8 [aj p]):=by rw [hH0];exact aJ (by simp) _
    have hP3:=at3 hP0;simp only [dK] at hP3;have hB0: ∃g,H0=h++g:=by obtain⟨g',e⟩:=hB;exact⟨_,by rw [hH0,e,zK,zK]⟩
    have hlH:H.length<H0.length:=hP3.2.1;simp [-ae,-ai,av,e1,e2,e7,e17,e18,e19,hyf,hxf,hP3];refine aG (lo:=h.length+1) (n:=3) (es:=(ni (aI t).net q p).map aa) (ys:=[aa (iX p)]) (by simpa [aa] using (kV hy (by simp <;> omega)).more _) (by simp <;> omega) (by simp [bu,aa,iX]) (by simp <;> omega) ?_;intro s1 H1 hs1 hg1 hn1;have hs1f:=hs1.rs.fix;have hx1:=(hx0.more _).grow hg1 (fun b e hb off len c=>by have h1:=hy.above _ _ _ c;have h2:=Py hx e;simp at h1;omega);have hT1:=hg1.keep _ _ (aJ hT0 _) (fun off len c=>by have h1:=hy.above _ _ _ c;simp at h1;omega);have hB1:=hg1.base h (by omega) (aF hB0 _);have hl1:=aV hB1;have hl2:=aK hT1;simp [-ae,-ai,-List.map_append,e1,e2,e7,e17,e18,e19,hs1f,hxf];refine ay.any (DX hx1.rs hs1.rs (by simp <;> omega) (by simp <;> omega)) ?_;rintro v H2 ⟨rfl,rfl⟩;simp [-ae,-ai,-List.map_append,e1,e2,e7,e17,e18,e19,ew];have e0:=Bu (v:=(aI t).net) hq hg;refine⟨j+1+1,by omega,by omega,by omega,?_,aF hB1 _,?_⟩
    ·rw [if_pos (by omega)];exact hT1
    rw [e0];exact Ls.own (by simp) (by omega) (by simp) (fun e he=>by obtain⟨a,_,rfl⟩:=List.mem_map.1 he;rfl)
  ·obtain rfl:i=l.length:=by omega
   simp [e1,e2,e7,e17,e18,e19,hxf];exact⟨hB,.tup' (.cons (hx.frz (by omega) (Fe _)) (.cons (.data _ (by simp)) .nil))⟩
 ·simp [hE];exact dz
def QJ:Nat→Option (List (Nat×Nat)):=fun id=>if id=7 then some [(1,12),(4,12),(6,12),(7,12)] else none
theorem Nu (v:bv)(s:Bytes)(h:fA v=0):(bH v s).isSome=aL v.pts s:=by
 rw [bH,if_pos h,aL,List.isSome_find?]
set_option maxHeartbeats 8000000 in
theorem Mf (t:bn)(l:List aC)(hp:t.net.pts.length≤1000)(hl:t.net.lks.length≤1000)(hs:t.sys.length≤1000)(hn:l.length≤1000000):af Tryz.prog gl 80 [.agg (av t),.ro (l.map aj)] h fun x h'=>x=Au (aI t).net l∧h'=h:=by
 refine af.fresh' (af.bodyL QJ Tryz.f80 _ mixed Tryz.func80 rfl rfl (by simp [Tryz.ntmps80]) ?_);unfold Au fV gT;by_cases c1:1024<l.length
 ·have c1':(1024:Int)<l.length:=by omega
  simp [QJ,c1,c1'];refine ay.pure _ (fun _=>pY t hp hl hs) ?_;simp [QJ,c1,c1'];exact dz
 have c1': ¬(1024:Int)<l.length:=by omega
 simp [QJ,c1,c1'];refine ay.pure _ (fun _=>pY t hp hl hs) ?_;have hv:=eQ t;have hvn:=oZ t;have hve:=fC t;have hvi:=BD t;have ok:=PL t;generalize hV:aI t=V at*;simp [QJ,c1,c1'];refine aW.upL QJ mixed l.length (fun i fr H=>fr 1= .ro (l.map aj)∧fr 6= .ptr (h.length+1) 0 0∧fr 7= .int .i64 i∧gP V.net none l=gP V.net (yg l i) (l.drop i)∧H[h.length+1]? =some (.cells 3 [av V])∧ ∃g,H=h++g) 0 (by omega)
  ⟨by simp,by simp,by simp,by simp [yg],by simp,_,rfl⟩ ?_
 rintro i fr H hi ⟨e1,e6,e7,he,hT,hB⟩;rw [he];have hT3:=at3 hT;simp only [av] at hT3;have hlH:=aV hB;rcases zN i l.length with hlt | hge
 ·obtain⟨p,hg,hg'⟩:=aN hlt;have ew:=aB (i:=i) (by omega);have c3:=fun H:ak=>bJ (gl:=gl) (h:=H) V.net p.point (by omega) (by omega);have hf:=Nu V.net p.point hve;simp only [bE] at c3;rw [nQ hg] at he ⊢
  cases hfp:bH V.net p.point with
  | none=>
   rw [hfp] at c3 hf;have hf2:aL V.net.pts p.point=false:=by rw [←hf];rfl
   simp [QJ,e1,e6,e7,hlt,hg,hg',hT3,ew,hf2];refine⟨by decide,?_⟩;refine ay.pure _ (fun _=>c3 _) ?_;simp [QJ,e1,e6,e7,hlt,hg,hg',hT3,ew];refine⟨?_,?_⟩
   ·refine ay.pure _ (fun _=>c3 _) ?_;simp
   ·exact⟨aF hB _,dz⟩
  | some pt=>
   rw [hfp] at c3 hf;have hf2:aL V.net.pts p.point=true:=by rw [←hf];rfl
   simp [QJ,e1,e6,e7,hlt,hg,hg',hT3,ew,hf2];refine⟨by decide,?_⟩;refine ay.pure _ (fun _=>c3 _) ?_;simp [QJ,e1,e6,e7,hlt,hg,hg',hT3,ew];refine⟨?_,?_⟩
   ·refine ay.pure _ (fun _=>c3 _) ?_;simp
   refine ay.pure _ (fun _=>jB p.time) ?_
   cases hti:bS p.time with
   | false=>
    simp;exact⟨aF hB _,dz⟩
   | true=>
    cases i with
    | zero=>
     simp [QJ,yg,e1,e6,e7,hg];refine⟨by decide,?_⟩;exact⟨1,by omega,by omega,by decide,by simp [hg],by rw [if_pos (by have:=aK hT;omega)];exact hT,aF hB _⟩
    | succ j=>
     obtain⟨q,hq,hq'⟩:=aN (l:=l) (i:=j) (by omega);have hj:j<l.length:=by omega
     have w1':IntKind.i64.wrap ((j:Int)+1 - 1)=(j:Int):=by rw [aD (by omega) (by omega)];omega
     have hpos:(0:Int)<(j:Int)+1:=by omega
     have w0:IntKind.i64.wrap (j:Int)=(j:Int):=aD (by omega) (by omega);have w2:IntKind.i64.wrap ((j:Int)+1+1)=((j+1+1:Nat):Int):=by rw [aD (by omega) (by omega)];omega
     have hn0:(0:Int)≤(j:Int)+1:=by omega
     have hlt':(j:Int)+1<l.length:=by omega
     simp [QJ,yg,e1,e6,e7,hg,hg',hq,hq',hj,w1',hpos,w0,w2,hn0,hlt',hlt];refine⟨by decide,fun c=> ?_,fun c=> ?_⟩
     ·rw [if_pos c];exact⟨aF hB _,dz⟩
     ·exact⟨j+1+1,by omega,by omega,by omega,by rw [if_neg (by omega)];simp [hg],by rw [if_pos (by have:=aK hT;omega)];exact hT,aF hB _⟩
 ·obtain rfl:i=l.length:=by omega
  simp [QJ,e1,e6,e7,hT3,gP];refine aW.upF 24 mixed l.length (fun i fr H=>fr 1= .ro (l.map aj)∧fr 6= .ptr (h.length+1) 0 0∧fr 11= .int .i64 i∧H[h.length+1]? =some (.cells 3 [av V])∧(∃g,H=h++g)∧ ∃x,fr 10=x∧Ls 3 (h.length+2) H x ((dP V.net l i).map aa)) 0 (by omega)
   ⟨by simp [e1],by simp [e6],by simp,by simpa using hT,hB,_,by simp;rfl,by simpa [dP] using Ls.nil⟩ ?_
  clear e1 e6 e7 hT hT3 hB hlH hi he;rintro i fr H hi ⟨e1,e6,e11,hT,hB,x,e10,hx⟩;have hT3:=at3 hT;simp only [av] at hT3;have hlH:=aV hB;have hxf:=hx.rs.fix;have hsl:=sV ok (l:=l) i;rcases zN i l.length with hlt | hge
  ·obtain⟨p,hg,hg'⟩:=aN hlt;have ew:=aB (i:=i) (by omega)
   cases i with
   | zero=>
    simp [-ae,-ai,e1,e6,e10,e11,hlt,hg,hg',hT3,hxf];refine⟨by decide,?_⟩;have e0:dP V.net l 1=[iX p]:=Bv hg;refine aG (lo:=h.length+2) (n:=3) (es:=(dP V.net l 0).map aa) (ys:=[aa (iX p)]) (by simpa [aa] using (hx).more _) (by simp <;> omega) (by simp [bu,aa,iX]) (by simp <;> omega) ?_;intro s9 H9 hs9 hg9 hn9;have hs9f:=hs9.rs.fix;have hT9:=hg9.keep _ _ (aJ hT _) fun off len e=>by have:=(hx).above _ _ _ e;omega
    have hB9:=hg9.base h (by omega) (aF hB _);simp [-ae,-ai,-List.map_append,e1,e6,e11,hs9f,ew];exact⟨1,by omega,by omega,by decide,hT9,hB9,by rw [e0];simpa [dP] using hs9⟩
   | succ j=>
    obtain⟨q,hq,hq'⟩:=aN (l:=l) (i:=j) (by omega);have hj:j<l.length:=by omega
    have w1':IntKind.i64.wrap ((j:Int)+1 - 1)=(j:Int):=by rw [aD (by omega) (by omega)];omega
    have hpos:(0:Int)<(j:Int)+1:=by omega
    have w0:IntKind.i64.wrap (j:Int)=(j:Int):=aD (by omega) (by omega);have w2:IntKind.i64.wrap ((j:Int)+1+1)=((j+1+1:Nat):Int):=by rw [aD (by omega) (by omega)];omega
    have hn0:(0:Int)≤(j:Int)+1:=by omega
    have hlt':(j:Int)+1<l.length:=by omega
    have c4:=fun H:ak=>Gr (gl:=gl) (h:=H) V q p (by omega) (by omega) (by omega);have c5:=fun (H:ak) (u:List Bytes)=>Mg (gl:=gl) (h:=H) V u q.time p.time (by omega) (by omega) (by omega);have hnz:=fun h=>PD (v:=V.net) (a:=q.point) (b:=p.point) (s:=q.time) (t:=p.time) h;have hok:=fun h=>yH ok (a:=q.point) (b:=p.point) (s:=q.time) (t:=p.time) h;have e0:=Bu (v:=V.net) hq hg;have hbl:=zu ok q p;rw [hvi] at c4 c5;unfold HZ at c4;unfold ni at e0 hbl;generalize fP V.net q.point p.point q.time p.time=M at*;obtain⟨m,E⟩:=M;simp only at c4 hnz hok e0 hbl;simp only [dK,av] at c4;simp [-ae,-ai,e1,e6,e10,e11,hlt,hlt',hn0,hpos,hg,hg',hq,hq',hj,w0,w1',w2,hT3,hxf];refine⟨by decide,?_⟩;refine ay.pure _ (fun _=>c4 _) ?_;by_cases hE:E=0
    ·subst hE;obtain⟨o1,o2,o3,o4,o5,o6,_⟩:=hok rfl;simp [-ae,-ai,e1,e6,e10,e11,hlt,hlt',hn0,hpos,hg,hg',hq,hq',hj,w0,w1',w2,hT3,hxf];obtain⟨path,hpath⟩: ∃path,path=q.point::(m++[p.point]):=⟨_,rfl⟩;have hpl:path.length=m.length+2:=by rw [hpath];simp
     have hm2:m.length≤14:=by simp at o2;omega
     rw [←hpath] at o1 o2 o6;have ep:path.map aO=[aO q.point]++m.map aO++[aO p.point]:=by rw [hpath];simp
     have hTl:=aK hT;refine aG (lo:=H.length) (n:=1) (es:=[aO q.point]) (ys:=m.map aO) (Ls.own (by simp [aO]) (by omega) rfl (by simp [aO])) (by simp) (by simp [bu,aO]) (by simp <;> omega) ?_;intro s1 H1 hs1 hg1 hn1;have hs1f:=hs1.rs.fix;have hT1:=hg1.keep _ _ (aJ hT _) fun off len e=>by injection e;omega
     have hB1:=hg1.base h (by omega) (aF hB _);have hx1:=(hx.more [cZ.cells 1 [[.str q.point]]]).grow hg1 (fun b e hb off len c=>by have:=Py hx e;injection c;omega);have hl1:=hg1.len;simp at hl1;simp [-ae,-ai,e1,e6,e10,e11,hlt,hlt',hn0,hpos,hg,hg',hq,hq',hj,w0,w1',w2,hT3,hxf,hs1f];refine aG (lo:=H.length) (n:=1) (es:=[aO q.point]++m.map aO) (ys:=[aO p.point]) (by simpa using hs1.more _) (by simp <;> omega) (by simp [bu,aO]) (by simp <;> omega) ?_;intro s2 H2 hs2 hg2 hn2;have hs2f:=hs2.rs.fix;have hT2:=hg2.keep _ _ (aJ hT1 _) fun off len e=>by have:=hs1.above _ _ _ e;omega
     have hB2:=hg2.base h (by omega) (aF hB1 _);have hx2:=(hx1.more [cZ.cells 1 [[.str p.point]]]).grow hg2 (fun b e hb off len c=>by have:=Py hx e;have:=hs1.above _ _ _ c;omega);rw [←ep] at hs2;simp [-ae,-ai,e1,e6,e10,e11,hxf,hs2f];refine aW.freezeL 14 (by simp) hs2.z ?_;intro fr1 H3 q14 qf hg3 hl3;have f1:fr1 1= .ro (l.map aj):=by rw [qf 1 (by decide)];simp [e1]
     have f6:fr1 6= .ptr (h.length+1) 0 0:=by rw [qf 6 (by decide)];simp [e6]
     have f10:fr1 10=x:=by rw [qf 10 (by decide)];simp [e10]
     have f11:fr1 11= .int .i64 (j+1:Nat):=by rw [qf 11 (by decide)];simp [e11]
     have f12:fr1 12= .ro (m.map aO):=by rw [qf 12 (by decide)];simp
     have hT4:=hg3.keep _ _ hT2 fun off len e=>by have:=hs2.above _ _ _ e;omega
     have hB4:=hg3.base h (by omega) hB2;have hx4:=hx2.grow hg3 (fun b e hb off len c=>by have:=Py hx e;have:=hs2.above _ _ _ c;omega);have hcall: ∀H':ak,af Tryz.prog gl 117 [.agg (av V),.ro (path.map aO),.int .i64 q.time,.int .i64 p.time] H' fun x h'=>x= .tup [.ro ((oW V.net path q.time p.time).map jG),.int .i64 0]∧h'=H':=fun H'=>by
      have:=c5 H' path (by omega);rw [AB,o6] at this;exact this
     have hT43:=at3 hT4;simp only [av] at hT43 hcall;refine aW.of_awp mixed _ _ _ _ ?_;simp [-ae,-ai,f1,f6,f10,f11,f12,q14,hT43,hlt,hlt',hn0,hpos,hg,hg',hq,hq',hj,w0,w1',w2];refine⟨by decide,?_⟩;refine ay.pure _ (fun _=>hcall _) ?_;have htl:=Fx V.net path q.time p.time;obtain⟨TL,hTL⟩: ∃TL,TL=oW V.net path q.time p.time:=⟨_,rfl⟩;rw [←hTL] at htl ⊢;have htg: ∀k,k<path.length→TL[k]? =some (dR V.net path q.time p.time k):=fun k hk=>by rw [hTL];exact Fw hk
     simp [-ae,-ai,f1,f6,f10,f11,f12,hT43,hxf];refine aW.up mixed m.length (fun k fr H=>fr 1= .ro (l.map aj)∧fr 6= .ptr (h.length+1) 0 0∧fr 11= .int .i64 (j+1:Nat)∧fr 12= .ro (m.map aO)∧fr 15= .ro (TL.map jG)∧fr 17= .int .i64 k∧H[h.length+1]? =some (.cells 3 [av V])∧(∃g,H=h++g)∧ ∃x,fr 10=x∧Ls 3 (h.length+2) H x ((dP V.net l (j+1)++lC V.net m q p k).map aa)) 0 (by omega)
      ⟨by simp [f1],by simp [f6],by simp [f11],by simp [f12],by simp,by simp,hT4,hB4,x,by simp [f10],by simpa [lC] using hx4⟩ ?_
     clear e1 e6 e10 e11 hT4 hT43 hx4 hB4 hxf hT2 hT1 hT3 hx hx1 hx2;clear f1 f6 f10 f11 f12;rintro k fr H5 hk ⟨e1,e6,e11,f12,f15,f17,hT5,hB5,y,e10,hy⟩;have hT53:=at3 hT5;simp only [av] at hT53;have hyf:=hy.rs.fix;have hyl:=zt V.net m q p k;have hl5:=aV hB5;rcases zN k m.length with hltk | hgek
     ·obtain⟨z,hz,hz'⟩:=aN hltk;have ewk:=aB (i:=k) (by omega);have hqd:m.getD k []=z:=by rw [List.getD_eq_getElem?_getD,hz];rfl
      have hsuc:=CY V.net m q p k;rw [hqd,←hpath] at hsuc;have ht2:=htg (k+1) (by omega);have ht2':=(zA.1 ht2).2;have hkl:k+1<TL.length:=by omega
      simp [-Int.natCast_add,-ae,-ai,-List.map_append,aO,jG,e1,e6,e10,e11,f12,f15,f17,hltk,hz,hz',ewk,ht2,ht2',hkl,hyf];refine⟨by decide,?_⟩;refine aG (lo:=h.length+2) (n:=3) (es:=(dP V.net l (j+1)++lC V.net m q p k).map aa) (ys:=[aa ⟨z,dR V.net path q.time p.time (k+1),[]⟩]) (by simpa [aa] using hy.more _) (by simp <;> omega) (by simp [bu,aa]) (by simp <;> omega) ?_;intro s6 H6 hs6 hg6 hn6;have hs6f:=hs6.rs.fix;have hT6:=hg6.keep _ _ (aJ hT5 _) fun off len e=>by have:=hy.above _ _ _ e;omega
      have hB6:=hg6.base h (by omega) (aF hB5 _);simp [-Int.natCast_add,-ae,-ai,-List.map_append,e1,e6,e10,e11,f12,f15,f17,hs6f,ewk];exact⟨k+1,by omega,by omega,by omega,hT6,hB6,by rw [hsuc];simpa using hs6⟩
     ·obtain rfl:k=m.length:=by omega
      simp [-ae,-ai,-List.map_append,e1,e6,e10,e11,f12,f15,f17,hlt,hlt',hn0,hg,hg',hyf,hT53];refine⟨by decide,?_⟩;simp at e0 hbl;refine aG (lo:=h.length+2) (n:=3) (es:=(dP V.net l (j+1)++lC V.net m q p m.length).map aa) (ys:=[aa (iX p)]) (by simpa [aa] using (hy).more _) (by simp <;> omega) (by simp [bu,aa,iX]) (by simp <;> omega) ?_;intro s9 H9 hs9 hg9 hn9;have hs9f:=hs9.rs.fix;have hT9:=hg9.keep _ _ (aJ hT5 _) fun off len e=>by have:=(hy).above _ _ _ e;omega
      have hB9:=hg9.base h (by omega) (aF hB5 _);simp [-ae,-ai,-List.map_append,e1,e6,e11,hs9f,ew];exact⟨j+1+1,by omega,by omega,by omega,hT9,hB9,by rw [e0];simpa using hs9⟩
    ·obtain rfl:=hnz hE;rw [if_pos hE] at e0;simp [-ae,-ai,hE,e1,e6,e10,e11,hlt,hlt',hn0,hpos,hg,hg',hq,hq',hj,w0,w1',w2,hT3,hxf];refine⟨by decide,?_⟩;refine aG (lo:=h.length+2) (n:=3) (es:=(dP V.net l (j+1)).map aa) (ys:=[aa (iX p)]) (by simpa [aa] using (hx).more _) (by simp <;> omega) (by simp [bu,aa,iX]) (by simp <;> omega) ?_;intro s9 H9 hs9 hg9 hn9;have hs9f:=hs9.rs.fix;have hT9:=hg9.keep _ _ (aJ hT _) fun off len e=>by have:=(hx).above _ _ _ e;omega
     have hB9:=hg9.base h (by omega) (aF hB _);simp [-ae,-ai,-List.map_append,e1,e6,e11,hs9f,ew];exact⟨j+1+1,by omega,by omega,by omega,hT9,hB9,by rw [e0];simpa using hs9⟩
  ·obtain rfl:i=l.length:=by omega
   simp [e1,e6,e10,e11,hT3,hxf];exact⟨hB,.tup' (.cons (hx.frz (by omega) (Fe _)) (.cons (.data _ (by simp)) .nil))⟩
end Go.Proofs.YtkpioblbeiaefaaGreat
namespace Go.Proofs.YtkpioblbeiaefaaGreat
open Go Go.Abs Go.Toll
variable {gl : aR} {h : ak}
theorem V7 (l:List bq): ∀e∈l.map aa,e.length=3:=by
 intro e he;obtain⟨a,_,rfl⟩:=List.mem_map.1 he;rfl
end Go.Proofs.YtkpioblbeiaefaaGreat
