/- Part 18 of the lemmas below the statements of this seat: IndexRoad, GrB, GrC, GrD. -/
import Derived.Test.YtkpioblbeiaefaaGreatPr17
set_option linter.unusedSectionVars false
set_option linter.unusedVariables false
set_option linter.unusedSimpArgs false
set_option linter.unnecessarySimpa false
set_option maxRecDepth 100000
section
namespace Go.Proofs.YtkpioblbeiaefaaGreat
open Go Go.Abs Go.Toll
variable {gl : aM} {h : af}
theorem AU (x:AV)(es:List (List AV))(hx:Rd 3 h x es)(hl:es.length≤1152921504606846976)(f:FuncId)(caps:List AV)(p:List AV→Bool)
  (hp: ∀e∈es,∀g,aa Tryz.prog gl f (.agg e::caps) (h++g) fun v h'=>v= .bool (p e)∧h'=h++g):
  aa Tryz.prog gl 187 [x,.fn (.func f) [] caps] h fun v h'=>v= .int .i64 (kN p es)∧h'=h:=by
 refine aa.data (by simp) (aa.body Tryz.f187 _ mixed Tryz.func187 rfl rfl (by simp [Tryz.ntmps187]) ?_);simp [hx.core,hx.gd,hx.lenOk,hx.alen];refine aT.up mixed es.length (fun i fr h'=>fr 0=x∧fr 1= .fn (.func f) [] caps∧fr 7= .int .i64 es.length∧fr 8= .int .i64 i∧kN p es=idxFrom p i (es.drop i)∧ ∃g,h'=h++g) 0 (by omega) ⟨by simp,by simp,by simp,by simp,by simp [kN],[],by simp⟩ ?_;rintro i fr h' hi ⟨e0,e1,e7,e8,hf,g,rfl⟩;have hx:=hx.append g;rcases zN i es.length with hlt | hge
 ·obtain⟨y,hg,hg'⟩:=aJ hlt;have hy:y.length=3:=hx.2 y (hg'▸List.getElem_mem hlt);rw [bq hg,idxFrom] at hf;have ew:=aB (i:=i) (by omega);have h0:(0:Int)≤i:=by omega
  have h1:(i:Int)<es.length:=by omega
  simp [e0,e1,e7,e8,hlt,hx.core,hx.gd,hx.iaddrOk,h0,h1,hx.icore,hx.igd,hx.loadV h0 h1 hg,hx.loadOk h0 h1 hg,hy];rw [zG (by omega)];refine ax.pure _ (fun _=>hp y (hg'▸List.getElem_mem hlt) g) ?_;simp [e0,e1,e7,e8,ew];refine⟨fun hpy=>by simp [hf,hpy],fun hpy=>⟨i+1,by omega,by omega,by simp,by simp [hf,hpy]⟩⟩
 ·rw [zH hge] at hf;simp [e0,e1,e7,e8,hf,Nat.not_lt.2 hge,idxFrom]
end Go.Proofs.YtkpioblbeiaefaaGreat
end
section
namespace Go.Proofs.YtkpioblbeiaefaaGreat
open Go Go.Abs Go.Toll
variable {gl : aM} {h : af}
def kE (b:Bool):List AV:=[.bool b]
def uI (v:bn)(s:Bytes):List AV:=[.int .i64 (aZ v s)]
theorem Qe (l:List Bool): ∀e∈l.map kE,e.length=1:=by
 intro e he;obtain⟨_,_,rfl⟩:=List.mem_map.1 he;rfl
section
variable {H H' : af} {p m : Nat} {v : bn} {sn : List Bool} {x : AV} {Q : List Bytes}
end
theorem Em (r:jE)(b:Nat)(n:Int)(hb:h[b]? =some (.cells 1 [[.int .i64 n]])):aa Tryz.prog gl 188 [.agg (bH r),.ptr b 0 0] h fun x h'=>x= .bool (decide (r.to=n))∧h'=h:=by
 refine aa.data (.bool _) (aa.body Tryz.f188 _ mixed Tryz.func188 rfl rfl (by simp [Tryz.ntmps188]) ?_);obtain⟨h1,h2⟩:=zA.1 hb;simp [hb,h1,h2];rfl
def R5:Nat→Option (List (Nat×Nat)):=fun i=>if i=15 then some [(1,8),(4,8),(5,8),(6,8)] else none
set_option maxHeartbeats 4000000 in
theorem qj (n:bn)(pth:List Bytes)(hp:n.pts.length≤1000)(hl:n.lks.length≤1000)(hpl:pth.length≤1000000):aa Tryz.prog gl 170 [.agg (bU n),.ro (pth.map aO)] h fun x h'=>x= .tup [.int .i64 (bM (cu n) pth).1,.int .i64 (bM (cu n) pth).2.1,.int .i64 (bM (cu n) pth).2.2]∧h'=h:=by
 refine aa.data (by simp) (aa.bodyL R5 Tryz.f170 _ mixed Tryz.func170 rfl rfl (by simp [Tryz.ntmps170]) ?_);have ok:=uD n;simp;refine ax.any (om n hp hl) ?_;rintro x h1 ⟨m,g,rfl,hh1,hmge,hm⟩;generalize cu n=v at*;have hM:xS h1 m v:=⟨hm⟩;have hB: ∃g1,h1=h++g1:=⟨_,by rw [hh1,zK]⟩;clear hh1 hmge;have hk:=Cb v;have hl:=Jw v;have hR:=gF.new hM hB;obtain⟨p,hp⟩: ∃p,p=h1.length:=⟨_,rfl⟩;have hml:=hM.lt;have hbl:=bJ hB;simp [aU];refine⟨fun e=> ?_,fun hne=> ?_⟩
 ·subst e;exact⟨⟨rfl,rfl,rfl⟩,aI hB _⟩
 ·rw [←hp] at hR ⊢;refine aT.upL R5 mixed pth.length (fun i fr H=>fr 1= .ro (pth.map aO)∧fr 7= .ptr p 0 0∧fr 23= .ro (pth.map aO)∧fr 24= .int .i64 pth.length∧fr 25= .int .i64 i∧gF h H p m v∧ ∀s∈upTo pth i,aF v.pts s=true) 0 (by omega)
   ⟨by simp,by simp,by simp,by simp,by simp,hR,by simp [upTo]⟩ ?_
  clear hR;rintro i fr H hi ⟨e1,e7,e23,e24,e25,hR,hall⟩;have hRl:=hR.all.1.2.1;rcases zN i pth.length with hlt | hge
  ·obtain⟨s,hs,hs'⟩:=aJ hlt;have ew:=aB (i:=i) (by omega);have hu:=PD hs;by_cases q:aF v.pts s=true
   ·simp [-aj,-au,-ah,-AV.solid,-bg,R5,aU,aO,hR.all,hk,hl,q,e1,e7,e23,e24,e25,hlt,hs,hs',ew];refine⟨i+1,by omega,by omega,by omega,hR,fun t ht=> ?_⟩;rw [hu] at ht;rcases List.mem_append.1 ht with ht | ht
    ·exact hall t ht
    ·rw [List.mem_singleton.1 ht];exact q
   ·have hbad:=y5 (v:=v) hne ⟨s,zF hs,by simpa using q⟩;simp [-aj,-au,-ah,-AV.solid,-bg,R5,aU,aO,hR.all,hk,hl,q,e1,e7,e23,e24,e25,hlt,hs,hs'];rw [hbad];exact⟨⟨rfl,rfl,rfl⟩,hR.base⟩
  ·rw [RO hge] at hall;obtain rfl:i=pth.length:=by omega
   obtain⟨a,l,hal⟩:=List.exists_cons_of_ne_nil hne;have hbm:bM v pth=match wk v a l with | some s=>(s.1,s.2,0) | none=>(0,0,21):=by
    rw [hal];exact kH (by rw [←hal];exact hall)
   obtain⟨W,hW⟩: ∃W,W=wk v a l:=⟨_,rfl⟩;rw [←hW] at hbm;simp [-aj,-au,-ah,-AV.solid,-bg,R5,e1,e7,e23,e24,e25];refine aT.upL R5 mixed pth.length (fun i fr H=>fr 1= .ro (pth.map aO)∧fr 7= .ptr p 0 0∧fr 14= .int .i64 i∧gF h H p m v∧1≤i∧ ∃low high u,fr 12= .int .i64 low∧fr 13= .int .i64 high∧pth[i - 1]? =some u∧W=(wk v u (pth.drop i)).map (fun s=>(low+s.1,high+s.2))∧(0≤low∧low≤2147483648*(i:Int))∧(0≤high∧high≤2147483648*(i:Int))) 1 (by rw [hal];simp)
    ⟨by simp [e1],by simp [e7],by simp,hR,by omega,0,0,a,by simp,by simp,by rw [hal];rfl,?_,by omega,by omega⟩ ?_
   ·rw [hW,hal];simp
   clear e1 e7 e23 e24 e25 hR hRl hi hge;rintro i fr H hi ⟨e1,e7,e14,hR,h1i,low,high,u,e12,e13,hu,hWu,hlo,hhi⟩;have hRl:=hR.all.1.2.1;rcases zN i pth.length with hlt | hge
   ·obtain⟨t,ht,ht'⟩:=aJ hlt;have ew:=aB (i:=i) (by omega);have htp:=hall t (zF ht);have hup:=hall u (zF hu);have hu':=(zA.1 hu).2;have hul:=(zA.1 hu).1;have ew1:IntKind.i64.wrap ((i:Int) - 1)=((i - 1:Nat):Int):=by rw [aC (by omega) (by omega)];omega
    have hrow:=mX (fQ hup);have hrl:=(zA.1 hrow).1;have hrow':=(zA.1 hrow).2;rw [bq ht] at hWu;simp [-aj,-au,-ah,-AV.solid,-bg,R5,aU,aO,hR.all,hk,hl,htp,hup,e1,e7,e12,e13,e14,hlt,ht,ht',hu,hu',hul,ew,ew1,hrow,hrow',hrl];refine⟨by decide,by decide,?_⟩;have hrlen:=pM v u;have hlk:=ok.llen;refine ax.pure _ (fun _=>AU _ ((rowOf v u).map bH) (Rd.ro (by simp)) (by simp;omega) 188 [.ptr H.length 0 0] (fun e=>decide (iF (e.getD 0 .junk)=aZ v t)) ?_) ?_
    ·intro e he g1;obtain⟨r,_,rfl⟩:=List.mem_map.1 he;exact Em r H.length (aZ v t) (by simp)
    ·have hR1:=hR.more [.cells 1 [[.int .i64 (aZ v t)]]];rw [Jg bH _ (fun r:jE=>decide (r.to=aZ v t)) (fun r=>rfl)];rcases Tf ok (s:=u) htp with⟨c1,c2⟩ | ⟨k,x,c1,c2,c3⟩
     ·have hnone:W=none:=by rw [hWu,wk,c2];rfl
      rw [c1];simp [-aj,-au,-ah,-AV.solid,-bg,R5];rw [hbm,hnone];exact⟨⟨rfl,rfl,rfl⟩,hR1.base⟩
     ·obtain⟨m1,_,_⟩:=fO c3;obtain⟨r1,r2,r3⟩:=ok.rng x m1;have hsome:W=(wk v t (pth.drop (i+1))).map (fun s=>(low+x.min+s.1,high+x.max+s.2)):=by
       rw [hWu,wk,c3]
       cases wk v t (pth.drop (i+1)) with
       | none=>rfl
       | some s=>simp [Int.add_assoc]
      have c2':=(zA.1 c2).2;have c2l:=(zA.1 c2).1;have ew2:IntKind.i64.wrap (low+x.min)=low+x.min:=aC (by omega) (by omega);have ew3:IntKind.i64.wrap (high+x.max)=high+x.max:=aC (by omega) (by omega);have hkn: ¬((k:Int)<0):=by omega
      rw [c1];simp [-aj,-au,-ah,-AV.solid,-bg,R5,e1,e7,e12,e13,e14,hkn,c2,c2',c2l,bi,ew,ew2,ew3];exact⟨i+1,by omega,by omega,by omega,hR1,by omega,t,by simpa using ht,hsome,by omega,by omega⟩
   ·obtain rfl:i=pth.length:=by omega
    rw [List.drop_length] at hWu;simp [-aj,-au,-ah,-AV.solid,-bg,R5,e1,e7,e12,e13,e14];rw [hbm,hWu];exact⟨⟨by simp,by simp,by simp⟩,hR.base⟩
end Go.Proofs.YtkpioblbeiaefaaGreat
end
section
namespace Go.Proofs.YtkpioblbeiaefaaGreat
open Go Go.Abs Go.Toll
variable {gl : aM} {h : af}
theorem Lb (c d:TC):aa Tryz.prog gl 205 [.agg (qc c),.agg (qc d)] h fun x h'=>x= .bool (uM c d)∧h'=h:=by
 refine aa.data (.bool _) (aa.body Tryz.f205 _ mixed Tryz.func205 rfl rfl (by simp [Tryz.ntmps205]) ?_);simp [uM];by_cases h1:c.time<d.time <;> by_cases h2:c.time=d.time <;> simp [h1,h2]
structure nP (h H:af)(p m:Nat)(v:bn)(L:List TC):Prop where
 rr:H[p]? =some (.cells 3 [aU v m])
 out:H[p+1]? =some (.cells 2 (L.map qc))
 ple:h.length≤p
 base: ∃g,H=h++g
section
variable {H H' : af} {p m : Nat} {v : bn} {L : List TC}
theorem nP.all (c:nP h H p m v L):(H[p]? =some (.cells 3 [aU v m])∧p<H.length∧ ∀hl:p<H.length,H[p]= .cells 3 [aU v m])∧H[p+1]? =some (.cells 2 (L.map qc))∧p+1<H.length∧ ∀hl:p+1<H.length,H[p+1]= .cells 2 (L.map qc):=
 ⟨⟨c.rr,(zA.1 c.rr).1,fun _=>(zA.1 c.rr).2⟩,c.out,(zA.1 c.out).1,fun _=>(zA.1 c.out).2⟩
theorem nP.more (c:nP h H p m v L)(g:af):nP h (H++g) p m v L:=
 ⟨by rw [zC c.all.1.2.1];exact c.rr,by rw [zC c.all.2.2.1];exact c.out,c.ple,aI c.base g⟩
theorem nP.set (c:nP h H p m v L)(L':List TC):nP h (H.set (p+1) (.cells 2 (L'.map qc))) p m v L':=
 ⟨by rw [zJ (by omega)];exact c.rr,zI c.all.2.2.1,c.ple,dA c.base (by have:=c.ple;omega) _⟩
end
set_option maxHeartbeats 8000000 in
theorem Jb (v:bn)(m:Nat)(b:Bytes)(ok:aV v)(hb:aF v.pts b=true):aa Tryz.prog gl 195 [.agg (aU v m),.int .i64 (aZ v b)] h fun x h'=>(∃L,x= .ro (L.map qc)∧R8 v b L)∧h'=h:=by
 refine aa.freshR (aa.body Tryz.f195 _ mixed Tryz.func195 rfl rfl (by simp [Tryz.ntmps195]) ?_);have hnl:(bB v).length≤64:=by rw [lI];exact ok.plen
 have hlk:=ok.llen;have hpb:=dG hb;obtain⟨p,hp⟩: ∃p,p=h.length:=⟨_,rfl⟩;simp [aU];refine⟨by omega,?_⟩;have hC0:nP h (h++[.cells 3 [aU v m],.cells 2 (List.replicate (bB v).length [.int .i64 0,.int .i64 0])]) p m v (nz (bB v).length 0):=by
  refine⟨by simp [hp],?_,by omega,_,rfl⟩;rw [Lg];simp [hp]
 rw [←hp];refine aT.up mixed (bB v).length (fun i fr H=>fr 1= .int .i64 (aZ v b)∧fr 2= .ptr p 0 0∧fr 5= .own (p+1) 0 (bB v).length∧fr 17= .int .i64 (bB v).length∧fr 18= .int .i64 i∧nP h H p m v (nz (bB v).length i)) 0 (by omega)
  ⟨by simp,by simp,by simp,by simp,by simp,by simpa [aU] using hC0⟩ ?_
 clear hC0;rintro i fr H hi ⟨e1,e2,e5,e17,e18,hC⟩;have hil:=Oi hi;rcases zN i (bB v).length with hlt | hge
 ·have ew:=aB (i:=i) (by omega);have hg:=Oh hlt;have hg':=(zA.1 hg).2;have hs:=Oj hlt;have hC1:=hC.set (nz (bB v).length (i+1));rw [←hs,List.map_set] at hC1;simp [e1,e2,e5,e17,e18,hlt,hC.all,hil,hg,hg',ew];refine⟨i+1,by omega,by omega,by omega,?_⟩;rw [←hs];simpa [D7] using hC1
 ·obtain rfl:i=(bB v).length:=by omega
  rw [Og] at hC;have hst:=jN.start ok hb;have hC1:=hC.set ((List.replicate (bB v).length D7).set (aZ v b) ⟨0,0⟩);have hpb':(List.replicate (bB v).length D7)[aZ v b]? =some D7:=by rw [List.getElem?_replicate,if_pos hpb]
  rw [List.map_set] at hC1;simp [e1,e2,e5,e17,e18,hC.all,hpb,hpb',D7];have hC2:nP h (H.set (p+1) (.cells 2 ((List.replicate (bB v).length [.int .i64 0,.int .i64 (-1)]).set (aZ v b) [.int .i64 0,.int .i64 0]))) p m v ((List.replicate (bB v).length D7).set (aZ v b) ⟨0,0⟩):=by
   have e:List.map qc (List.replicate (bB v).length D7)=List.replicate (bB v).length [AV.int .i64 0,.int .i64 (-1)]:=by rw [List.map_replicate];rfl
   rw [e] at hC1;exact hC1
  generalize (List.replicate (bB v).length D7).set (aZ v b) ⟨0,0⟩=Ls at hst hC2;refine aT.down mixed (fun M fr H=>fr 2= .ptr p 0 0∧fr 5= .own (p+1) 0 (bB v).length∧ ∃ch L,fr 7= .bool ch∧nP h H p m v L∧jN v b L∧XP v ch L M) (2*Et Ls+1)
   ⟨by simp [e2],by simp [e5],true,Ls,by simp,hC2,hst,⟨by simp,by simp⟩⟩ ?_
  clear hC hC1 hC2 hst hil e1 e2 e5 e17 e18 hpb' hi hge;rintro M fr H ⟨e2,e5,ch,L,e7,hC,hok,⟨hfx,rfl⟩⟩;have hll:=hok.len
  cases ch with
  | false=>
   simp [-Bool.exists_bool,e2,e5,e7];refine⟨hC.base,_,?_,L,rfl,hok.opt ok (hfx rfl)⟩;have:=pW.ownD (n:=p) (b:=p+1) (off:=0) (len:=L.length) (es':=L.map qc) hC.out (by omega) (by simp) (by simp [zG]) (by
    intro e he y hy;obtain⟨c,_,rfl⟩:=List.mem_map.1 he;simp at hy;rcases hy with rfl | rfl <;> simp)
   rwa [hll] at this
  | true=>
   simp [-Bool.exists_bool,e2,e5,e7];refine aT.up mixed (bB v).length (fun i fr H=>fr 2= .ptr p 0 0∧fr 5= .own (p+1) 0 (bB v).length∧fr 32= .int .i64 (bB v).length∧fr 33= .int .i64 i∧ ∃ch L',fr 7= .bool ch∧nP h H p m v L'∧jN v b L'∧D9 v L ch L' i) 0 (by omega)
    ⟨by simp [e2],by simp [e5],by simp,by simp,false,L,by simp,hC,hok,D9.start v L⟩ ?_
   clear hC hok hfx e2 e5 e7 hll;rintro i fr H hi ⟨e2,e5,e32,e33,ch,L',e7,hC,hok,hw⟩;have hll:=hok.len;rcases zN i (bB v).length with hlt | hge
   ·obtain⟨s,hs,_⟩:=aJ hlt;obtain⟨hsp,hsi⟩:=Nl ok hs;have hrow:=mX hs;have hrl:=(zA.1 hrow).1;have hrow':=(zA.1 hrow).2;have hrlen:=pM v s;have ew:=aB (i:=i) (by omega);simp [-Bool.exists_bool,aU,hC.all,e2,e5,e7,e32,e33,hlt,hrow,hrow',hrl];refine aT.up mixed (rowOf v s).length (fun k fr H=>fr 2= .ptr p 0 0∧fr 5= .own (p+1) 0 (bB v).length∧fr 32= .int .i64 (bB v).length∧fr 33= .int .i64 i∧fr 8= .int .i64 i∧fr 40= .ro ((rowOf v s).map bH)∧fr 41= .int .i64 (rowOf v s).length∧fr 42= .int .i64 k∧ ∃ch L',fr 7= .bool ch∧nP h H p m v L'∧jN v b L'∧Ea v L ch L' s k) 0 (by omega)
     ⟨by simp [e2],by simp [e5],by simp [e32],by simp [e33],by simp,by simp,by simp,by simp,ch,L',by simp [e7],hC,hok,D9.open (by rw [hsi];exact hw)⟩ ?_
    clear hC hok hw e2 e5 e7 e32 e33 hll;rintro k fr H hk ⟨e2,e5,e32,e33,e8,e40,e41,e42,ch,L',e7,hC,hok,hw⟩;have hll:=hok.len;rcases zN k (rowOf v s).length with hltk | hgek
    ·obtain⟨r,hr,hr'⟩:=aJ hltk;obtain⟨x,x1,x2,x3,x4⟩:=yJ hr;subst x2;obtain⟨q1,q2,q3⟩:=ok.ends x x3;have q4:=dG q2;obtain⟨r1,r2,r3⟩:=ok.rng x x3;have hgd:=uB hll q2;have hgd':=(zA.1 hgd).2;have hgs:=uB hll hsp;rw [hsi] at hgs;have hgs':=(zA.1 hgs).2;have ewk:=aB (i:=k) (by omega);have hC1:=hC.more [.cells 3 [bH (bi v x)],.cells 2 [qc (dP v L' x.dst)]];by_cases hd:(dP v L' x.dst).pts<0
     ·simp [-Bool.exists_bool,aU,hC.all,e2,e5,e7,e8,e32,e33,e40,e41,e42,hltk,hr,hr',bi,hgd,hgd',hgs,hgs',hll,q4,hlt,ewk,hd];exact⟨k+1,by omega,by omega,by omega,L',by simpa [bi] using hC1,hok,hw.keep x1 (.inl hd)⟩
     ·have hrg:=hok.rng ok q2 (by omega);have ew2:IntKind.i64.wrap ((dP v L' x.dst).time+x.min)=(dP v L' x.dst).time+x.min:=aC (by omega) (by omega);have ew3:IntKind.i64.wrap ((dP v L' x.dst).pts+1)=(dP v L' x.dst).pts+1:=aC (by omega) (by omega);have hC3:=hC.more [.cells 3 [bH (bi v x)],.cells 2 [qc (iY (dP v L' x.dst) x)]];have hC4:=(hC.set (L'.set i (iY (dP v L' x.dst) x))).more [.cells 3 [bH (bi v x)],.cells 2 [qc (iY (dP v L' x.dst) x)]];rw [List.map_set] at hC4;simp [-Bool.exists_bool,aU,hC.all,e2,e5,e7,e8,e32,e33,e40,e41,e42,hltk,hr,hr',bi,hgd,hgd',hgs,hgs',hll,q4,hlt,ewk,hd,ew2,ew3];refine⟨by decide,?_⟩;refine ax.pure (.bool (uM (iY (dP v L' x.dst) x) (dP v L' s))) (fun _=>Lb (iY (dP v L' x.dst) x) (dP v L' s)) ?_;simp [-Bool.exists_bool,aU,hC.all,e2,e5,e7,e8,e32,e33,e40,e41,e42,hltk,hr,hr',bi,hgd,hgd',hgs,hgs',hll,q4,hlt,ewk,hd,ew2,ew3];refine⟨fun c=> ?_,fun c1 c2=>⟨k+1,by omega,by omega,by omega,L',hC3,hok,hw.keep x1 (.inr (by rw [x4];exact⟨c1,c2⟩))⟩⟩;obtain⟨n1,n2⟩:=hok.step ok x3 (by omega) hb (by rw [x4];exact c);rw [x4,hsi] at n1 n2;exact⟨k+1,by omega,by omega,by omega,L'.set i (iY (dP v L' x.dst) x),hC4,n1,hw.turn n2⟩
    ·obtain rfl:k=(rowOf v s).length:=by omega
     simp [-Bool.exists_bool,e2,e5,e7,e8,e32,e33,e40,e41,e42,ew];exact⟨i+1,by omega,by omega,by omega,L',hC,hok,by have:=hw.close ok hsp (by rw [rowOf,List.length_map];exact Nat.le_refl _);rwa [hsi] at this⟩
   ·obtain rfl:i=(bB v).length:=by omega
    simp [-Bool.exists_bool,e2,e5,e7,e32,e33];exact⟨2*Et L'+ch.toNat,hw.down,L',hC,hok,⟨fun c x hx=>(hw.still c).2 x hx (dG (ok.ends x hx).1),rfl⟩⟩
set_option maxHeartbeats 8000000 in
theorem BQ (n:bn)(a b:Bytes)(hp:n.pts.length≤1000)(hl:n.lks.length≤1000):aa Tryz.prog gl 184 [.agg (bU n),.str a,.str b] h fun x h'=>x=uL (cu n) a b∧h'=h:=by
 refine aa.fresh' (aa.body Tryz.f184 _ mixed Tryz.func184 rfl rfl (by simp [Tryz.ntmps184]) ?_);have ok:=uD n;simp;refine ax.any (om n hp hl) ?_;rintro x h1 ⟨m,g,rfl,hh1,hmge,hm⟩;generalize cu n=v at*;have hM:xS h1 m v:=⟨hm⟩;have hB: ∃g1,h1=h++g1:=⟨_,by rw [hh1,zK]⟩;clear hh1 hmge;have hR:=gF.new hM hB;obtain⟨p,hp⟩: ∃p,p=h1.length:=⟨_,rfl⟩;have hml:=hM.lt;have hbl:=bJ hB;simp [aU];refine ax.pure _ (fun _=>BR v m a b (hM.more _)) ?_;simp [aU];refine⟨fun q=> ?_,fun qa qb=> ?_⟩
 ·have hnone:iL v a b=none:=by
   unfold iL;rw [if_neg];rintro⟨c1,c2⟩;rcases q with q | q <;> simp_all
  rw [uL,hnone];exact⟨aI hB _,.tup' (.cons .nil (.cons (.data _ (by simp)) (.cons (.data _ (by simp)) .nil)))⟩
 ·have ea:numOf v a=(aZ v a:Int):=by rw [numOf,if_pos qa]
  have eb:numOf v b=(aZ v b:Int):=by rw [numOf,if_pos qb]
  rw [ea,eb];refine ax.any (Jb v m b ok qb) ?_;rintro x h2 ⟨⟨L,rfl,hC⟩,rfl⟩;have hll:=hC.ok.len;have hga:=uB hll qa;have hga':=(zA.1 hga).2;have hpa:=dG qa;have hlk:=ok.llen;simp [aU,hga,hga',hll,hpa];refine⟨fun c=> ?_,fun c=> ?_⟩
  ·have hnone:iL v a b=none:=KQ ok fun l s h1 h2=>by
    have:=(hC.opt l a s qa h1 h2).1;omega
   rw [uL,hnone];exact⟨aI hB _,.tup' (.cons .nil (.cons (.data _ (by simp)) (.cons (.data _ (by simp)) .nil)))⟩
  ·rw [←hp] at hR ⊢;have hsh:=hC.short ok qa c;have hpb:=dG qb;have hR1:=hR.more [.cells 1 [aO a]];refine aT.down mixed (fun M fr H=>fr 9= .ptr p 0 0∧fr 10= .int .i64 (aZ v a)∧fr 11= .int .i64 (aZ v b)∧fr 13= .ro (L.map qc)∧ ∃o x u,fr 14=o∧fr 15= .int .i64 (aZ v u)∧gF h H p m v∧Ls 1 (p+1) H o ((a::x).map aO)∧AZ v a b L x u∧M=(dP v L u).pts.toNat) (dP v L a).pts.toNat
    ⟨by simp,by simp,by simp,by simp,.own (p+1) 0 1,[],a,by simp,by simp,by simpa [aU,aO] using hR1,Ls.own (es:=[aO a]) (by simp [aO,hp]) (by omega) (by simp) (by simp [aO]),AZ.start qa c,rfl⟩ ?_
   clear hR hR1;rintro M fr H ⟨e9,e10,e11,e13,o,x,u,e14,e15,hR,hL,hW,rfl⟩;have hf:=hL.rs.fix;have hxl:=hW.len;have hup:=dG hW.pt;have hRl:=hR.all.1.2.1;by_cases hub:u=b
   ·subst hub;have hbest:=KR ok qa qb (hW.best ok hC qa);simp [-aj,-au,-ah,-AV.solid,e9,e10,e11,e13,e14,e15,hf,hga,hga',hll,hpa];rw [uL,hbest];exact⟨by decide,hR.base,.tup' (.cons (hL.frz (by omega) (gM _)) (.cons (.data _ (by simp)) (.cons (.data _ (by simp)) .nil)))⟩
   ·have hne: ¬(aZ v u:Int)=aZ v b:=fun e=>hub (gT ok hW.pt qb (by omega));have hrow:=mX (fQ hW.pt);have hrl:=(zA.1 hrow).1;have hrow':=(zA.1 hrow).2;have hrlen:=pM v u;have hgu:=uB hll hW.pt;have hgu':=(zA.1 hgu).2;simp [-aj,-au,-ah,-AV.solid,aU,hR.all,e9,e10,e11,e13,e14,e15,hf,hne,hrow,hrow',hrl];refine aT.up mixed (rowOf v u).length (fun k fr H=>fr 9= .ptr p 0 0∧fr 10= .int .i64 (aZ v a)∧fr 11= .int .i64 (aZ v b)∧fr 13= .ro (L.map qc)∧fr 14=o∧fr 15= .int .i64 (aZ v u)∧fr 50= .ro ((rowOf v u).map bH)∧fr 51= .int .i64 (rowOf v u).length∧fr 52= .int .i64 k∧
      gF h H p m v∧Ls 1 (p+1) H o ((a::x).map aO)∧ ∀j z,j<k→(kF v u)[j]? =some z→ ¬sW v L z) 0 (by omega)
     ⟨by simp [e9],by simp [e10],by simp [e11],by simp [e13],by simp [e14],by simp [e15],by simp,by simp,by simp,hR,hL,fun j z hj=>by omega⟩ ?_
    clear hR hL e9 e10 e11 e13 e14 e15 hRl;rintro k fr H hk ⟨e9,e10,e11,e13,e14,e15,e50,e51,e52,hR,hL,hno⟩;have hRl:=hR.all.1.2.1;rcases zN k (rowOf v u).length with hlt | hge
    ·obtain⟨r,hr,hr'⟩:=aJ hlt;obtain⟨y,y1,rfl,y3,y4⟩:=yJ hr;obtain⟨q1,q2,q3⟩:=ok.ends y y3;have q4:=dG q2;obtain⟨r1,r2,r3⟩:=ok.rng y y3;have hgd:=uB hll q2;have hgd':=(zA.1 hgd).2;have ewk:=aB (i:=k) (by omega);have hpd:=fQ q2;have hpd':=(zA.1 hpd).2;have hon:=OO (v:=v) (L:=L) y;rw [y4] at hon;have hR1:=hR.more [.cells 3 [bH (bi v y)],.cells 2 [qc (dP v L y.dst)]];have hL1:=hL.more [.cells 3 [bH (bi v y)],.cells 2 [qc (dP v L y.dst)]];have hmiss: ¬sW v L y→ ∀j z,j<k+1→(kF v u)[j]? =some z→ ¬sW v L z:=fun hn j z hj hz=>by
      rcases zN j k with h1 | h1
      ·exact hno j z h1 hz
      ·obtain rfl:j=k:=by omega
       rw [y1] at hz;rw [←Option.some.inj hz];exact hn
     by_cases hd:(dP v L y.dst).pts<0
     ·have hd': ¬0≤(dP v L y.dst).pts:=by omega
      simp [-aj,-au,-ah,-AV.solid,aU,hR.all,e9,e10,e11,e13,e14,e15,e50,e51,e52,hlt,hr,hr',bi,hgd,hgd',hgu,hgu',hll,q4,hup,ewk,hd,hd'];exact⟨by decide,k+1,by omega,by omega,by omega,hR1,hL1,hmiss fun hc=>hd' hc.1⟩
     ·have hrg:=hC.ok.rng ok q2 (by omega);have ew2:IntKind.i64.wrap ((dP v L y.dst).time+y.min)=(dP v L y.dst).time+y.min:=aC (by omega) (by omega);have ew3:IntKind.i64.wrap ((dP v L y.dst).pts+1)=(dP v L y.dst).pts+1:=aC (by omega) (by omega);have hd':0≤(dP v L y.dst).pts:=by omega
      simp [-aj,-au,-ah,-AV.solid,aU,hR.all,e9,e10,e11,e13,e14,e15,e50,e51,e52,hlt,hr,hr',bi,hgd,hgd',hgu,hgu',hll,q4,hup,ewk,hd,hd',ew2,ew3,hf,aO,hpd,hpd'];refine⟨by decide,fun c1 c2=> ?_,fun cc=>⟨k+1,by omega,by omega,by omega,hR1,hL1,hmiss fun hc=> ?_⟩⟩
      ·have hyon:sW v L y:=hon.2 ⟨hd',c1,c2⟩;obtain⟨hW1,hW2⟩:=hW.step ok hC y1 hyon hno;refine mV (lo:=p+1) (n:=1) (es:=(a::x).map aO) (ys:=[aO y.dst]) (by simpa [aO,bi] using hL.more [.cells 3 [bH (bi v y)],.cells 2 [qc (dP v L y.dst)],.cells 1 [aO y.dst]]) (by simp;omega) (by simp [bE,aO]) (by simp;omega) ?_;intro s1 H1 hs1 hg1;have hs1f:=hs1.rs.fix;have hR2:=(hR.more [.cells 3 [bH (bi v y)],.cells 2 [qc (dP v L y.dst)],.cells 1 [aO y.dst]]).grow (by simpa [aO,bi] using hg1) hL.above (by omega) (by omega) (by omega);simp [-aj,-au,-ah,-AV.solid,e9,e10,e11,e13,hs1f];exact⟨(dP v L y.dst).pts.toNat,by omega,x++[y.dst],y.dst,rfl,hR2,by simpa [aO] using hs1,hW1,rfl⟩
      ·exact cc (hon.1 hc).2.1 (hon.1 hc).2.2
    ·exfalso
     obtain⟨z,z1,z2,z3⟩:=hW.exists ok hC hub;obtain⟨j,hj⟩:=List.getElem?_of_mem ((iI v u z).2 ⟨z1,z2⟩);exact hno j z (by have:=aK hj;rw [rowOf,List.length_map] at hge;omega) hj z3
end Go.Proofs.YtkpioblbeiaefaaGreat
end
section
namespace Go.Proofs.YtkpioblbeiaefaaGreat
open Go Go.Abs Go.Toll
variable {gl : aM} {h : af}
theorem Rq {H:af} {b:Nat} {o:bY} (h:H[b]? =some o):H.set b o=H:=by
 refine List.ext_getElem? fun i=> ?_;by_cases e:b=i
 ·subst e;rw [zI (zA.1 h).1,h]
 ·rw [zJ e]
theorem Ls.isOwn {n lo:Nat} {H:af} {x:AV} {es:List (List AV)} (r:Ls n lo H x es)(h:es≠[]): ∃b,x= .own b 0 es.length∧lo≤b∧H[b]? =some (.cells n es):=by
 rcases r.1 with⟨_,e⟩ | h1
 ·exact absurd e h
 ·exact h1
structure wG (h H:af)(q px lb M:Nat)(v:bn)(cs:List AV)(st:St):Prop where
 net:H[q]? =some (.cells 2 [bU v])
 least:H[lb]? =some (.cells 1 (KE st))
 nest:eQ 1 (q+1) H (.own px 0 cs.length) cs (Uf st)
 high: ∀b off len,AV.own b off len∈cs→M≤b
 base: ∃g,H=h++g
 mle:M≤H.length
 ne:px≠lb∧q<lb∧lb<M∧px<M∧q<px∧h.length≤q
section
variable {H H' : af} {q px lb M : Nat} {v : bn} {cs : List AV} {st : St}
theorem wG.all (r:wG h H q px lb M v cs st):(H[q]? =some (.cells 2 [bU v])∧q<H.length∧ ∀hl:q<H.length,H[q]= .cells 2 [bU v])∧(H[lb]? =some (.cells 1 (KE st))∧lb<H.length∧ ∀hl:lb<H.length,H[lb]= .cells 1 (KE st))∧
  H[px]? =some (.cells 1 (cs.map fun c=>[c]))∧px<H.length∧ ∀hl:px<H.length,H[px]= .cells 1 (cs.map fun c=>[c]):=
 ⟨⟨r.net,(zA.1 r.net).1,fun _=>(zA.1 r.net).2⟩,⟨r.least,(zA.1 r.least).1,fun _=>(zA.1 r.least).2⟩,r.nest.blk.1,r.nest.blk.2.1,r.nest.blk.2.2.1⟩
theorem wG.more (r:wG h H q px lb M v cs st)(g:af):wG h (H++g) q px lb M v cs st:=
 ⟨by rw [zC r.all.1.2.1];exact r.net,by rw [zC r.all.2.1.2.1];exact r.least,r.nest.more g,r.high,aI r.base g,by have:=r.mle;simp;omega,r.ne⟩
theorem wG.grow {lo:Nat} {s:AV} (r:wG h H q px lb M v cs st)(g:Grow lo H s H')(hs: ∀b off len,s= .own b off len→M≤b∧ ∀off' len',AV.own b off' len'∉cs)(hlo:h.length≤lo):wG h H' q px lb M v cs st:=by
 obtain⟨n1,n2,n3,n4,n5,n6⟩:=r.ne;refine⟨g.keep _ _ r.net fun off len e=>by have:=(hs _ _ _ e).1;omega,g.keep _ _ r.least fun off len e=>by have:=(hs _ _ _ e).1;omega,?_,r.high,g.base h hlo r.base,Nat.le_trans r.mle g.len,r.ne⟩;refine r.nest.grow g (fun b e off len e'=> ?_) fun c hc b off len e off' len' e'=> ?_
 ·injection e with e1;have:=(hs _ _ _ e').1;omega
 ·exact (hs _ _ _ e').2 off len (e▸hc)
theorem wG.put (r:wG h H q px lb M v cs st) {k:Nat} {d:AV} {p:List Bytes} {t:Int} (hk:k<cs.length)(hd:Ls 1 M H d (p.map aO))(hn: ∀b off len,d= .own b off len→ ∀off' len',AV.own b off' len'∉cs):
  wG h ((H.set px (.cells 1 ((cs.map fun c=>[c]).set k [d]))).set lb (.cells 1 ((KE st).set k [.int .i64 t]))) q px lb M v (cs.set k d) (st.set k (p,t)):=by
 obtain⟨n1,n2,n3,n4,n5,n6⟩:=r.ne;obtain⟨⟨a1,a2,a3⟩,⟨b1,b2,b3⟩,c1,c2,c3⟩:=r.all;have hdb:=hd.above;refine⟨?_,?_,?_,fun b off len hm=> ?_,dA (dA r.base (by omega) _) (by omega) _,by have:=r.mle;simpa using this,r.ne⟩
 ·rw [zJ (by omega),zJ (by omega)];exact a1
 ·rw [Ti,zI (by simpa using b2)]
 ·rw [Tj,show (cs.set k d).length=cs.length by simp];have keep: ∀b o,H[b]? =some o→b≠px→(H.set px (.cells 1 ((cs.map fun c=>[c]).set k [d])))[b]? =some o:=fun b o hb h1=>by
   rw [zJ (Ne.symm h1)];exact hb
  have h1:=r.nest.put (h':=H.set px (.cells 1 ((cs.map fun c=>[c]).set k [d]))) (d:=d) (s:=p.map aO) rfl hk (hd.keep' fun b len o e ho=>keep b o ho (by have:=hdb _ _ _ e;omega)).rs (fun b off len e=>⟨by have:=hdb _ _ _ e;omega,by have:=hdb _ _ _ e;omega,fun off' len' hm=>absurd hm (hn b off len e off' len')⟩) (fun b o hb hne _=>keep b o hb hne) (zI c2);refine h1.keep fun b o hm ho=> ?_;rw [zJ]
  ·exact ho
  ·rcases hm with⟨off,len,e⟩ | ⟨off,len,e⟩
   ·injection e with e2;omega
   ·rcases List.mem_or_eq_of_mem_set e with e | e
    ·have:=r.high b off len e;omega
    ·have:=hdb b off len e.symm;omega
 ·rcases List.mem_or_eq_of_mem_set hm with hm | e
  ·exact r.high b off len hm
  ·exact hdb b off len e.symm
end
def Jz:Nat→Option (List (Nat×Nat)):=fun _=>none
set_option maxHeartbeats 8000000 in
theorem CY (n:bn)(a b:Bytes)(hp:n.pts.length≤1000)(hl:n.lks.length≤1000):aa Tryz.prog gl 130 [.agg (bU n),.str a,.str b] h fun x h'=>x=uL (cu n) a b∧h'=h:=by
 refine aa.fresh' (aa.bodyL Jz Tryz.f130 _ mixed Tryz.func130 rfl rfl (by simp [Tryz.ntmps130]) ?_);simp;refine ax.pure _ (fun _=>zy n hp hl) ?_;have ok:=uD n;generalize cu n=v at*;have hlk:=ok.llen;have hpl:=ok.plen;simp;refine⟨by decide,ax.pure _ (fun _=>gz v.pts 64 a (by omega)) ?_⟩;rw [zG (by omega)];simp;refine ax.pure _ (fun _=>gz v.pts 64 b (by omega)) ?_;rw [zG (by omega)];simp [BV];refine⟨fun q=> ?_,fun qa qb=> ?_⟩
 ·have hnone:iL v a b=none:=by
   unfold iL;rw [if_neg];rintro⟨c1,c2⟩;rcases q with q | q <;> simp_all
  rw [uL,hnone];exact .tup' (.cons .nil (.cons (.data _ (by simp)) (.cons (.data _ (by simp)) .nil)))
 ·rw [w9 qa,w9 qb];obtain⟨q,hq⟩: ∃q,q=h.length+1:=⟨_,rfl⟩;rw [show h.length+1=q from hq.symm];refine aT.upL Jz mixed v.pts.length (fun i fr H=>fr 1= .str a∧fr 9= .ptr q 0 0∧fr 10= .int .i64 (gI v.pts a)∧fr 11= .int .i64 (gI v.pts b)∧fr 14= .int .i64 i∧H[q]? =some (.cells 2 [bU v])∧(∃g,H=h++g)∧ ∃x y,fr 12=x∧fr 13=y∧Ls 1 (q+1) H x (List.replicate i [.nil])∧Ls 1 (q+1) H y (List.replicate i [.int .i64 0])∧ ∀b off len off' len',x= .own b off len→y≠ .own b off' len') 0 (by omega)
   ⟨by simp,by simp,by simp,by simp,by simp,by simp [hq],by simp,.nil,.nil,by simp,by simp,by simpa using Ls.nil,by simpa using Ls.nil,by simp⟩ ?_
  rintro i fr H hi ⟨e1,e9,e10,e11,e14,hN,hB,x,y,e12,e13,hx,hy,hxy⟩;have hxf:=hx.rs.fix;have hyf:=hy.rs.fix;have hqa:H[q]? =some (.cells 2 [bU v])∧q<H.length∧ ∀hl:q<H.length,H[q]= .cells 2 [bU v]:=⟨hN,(zA.1 hN).1,fun _=>(zA.1 hN).2⟩;have hbl:=bJ hB;rcases zN i v.pts.length with hlt | hge
  ·have ew:=aB (i:=i) (by omega);simp [-aj,-au,-ah,-AV.solid,Jz,hqa,e1,e9,e10,e11,e12,e13,e14,hlt,hxf];refine aN (lo:=q+1) (n:=1) (es:=List.replicate i [.nil]) (ys:=[[.nil]]) (by simpa using hx.more [.cells 1 [[.nil]]]) (by simp;omega) (by simp [bE]) (by simp;omega) ?_;intro s1 H1 hs1 hg1 hn1;have hs1f:=hs1.rs.fix;have hN1:H1[q]? =some (.cells 2 [bU v]):=hg1.keep q _ (by rw [zC hqa.2.1];exact hN) fun off len e=>by have:=hx.above _ _ _ e;omega
   have hB1:=hg1.base h (by omega) (aI hB _);have hqa1:H1[q]? =some (.cells 2 [bU v])∧q<H1.length∧ ∀hl:q<H1.length,H1[q]= .cells 2 [bU v]:=⟨hN1,(zA.1 hN1).1,fun _=>(zA.1 hN1).2⟩;have hy1:=(hy.more [.cells 1 [[.nil]]]).grow hg1 (fun b e _ off len e'=>hxy b off len _ _ e' e);have hy1f:=hy1.rs.fix;simp [-aj,-au,-ah,-AV.solid,Jz,hqa1,e1,e9,e10,e11,e12,e13,e14,hlt,hs1f,hy1f];refine aN (lo:=q+1) (n:=1) (es:=List.replicate i [.int .i64 0]) (ys:=[[.int .i64 0]]) (by simpa using hy1.more [.cells 1 [[.int .i64 0]]]) (by simp;omega) (by simp [bE]) (by simp;omega) ?_;intro s2 H2 hs2 hg2 hn2;have hs2f:=hs2.rs.fix;have hl1:=hg1.len;have hl2:=hg2.len;have hN2:H2[q]? =some (.cells 2 [bU v]):=hg2.keep q _ (by rw [zC hqa1.2.1];exact hN1) fun off len e=>by have:=hy.above _ _ _ e;omega
   have hB2:=hg2.base h (by omega) (aI hB1 _);have hs12:=(hs1.more [.cells 1 [[.int .i64 0]]]).grow hg2 (fun b e _ off len e'=>by have h1:=hn1 _ _ _ e;have h2:=hy.rs.lt e';simp at h1;omega);have hqa2:q<H2.length:=(zA.1 hN2).1;simp [-aj,-au,-ah,-AV.solid,Jz,e1,e9,e10,e11,e12,e13,e14,hlt,hs1f,hs2f,ew];refine⟨i+1,by omega,by omega,by omega,hN2,hB2,?_,?_,fun b off len off' len' e e'=> ?_⟩
   ·rw [List.replicate_succ'];exact hs12
   ·rw [List.replicate_succ'];exact hs2
   ·have h1:=hs1.rs.lt e;have h2:=hn2 _ _ _ e';simp at h2;omega
  ·obtain rfl:i=v.pts.length:=by omega
   have hnp:0<v.pts.length:=Nat.lt_of_le_of_lt (Nat.zero_le _) (qD qa);obtain⟨px,rfl,hpx1,hpx2⟩:=Ls.isOwn hx (by rw [ne_eq,List.replicate_eq_nil_iff];omega);obtain⟨lb,rfl,hlb1,hlb2⟩:=Ls.isOwn hy (by rw [ne_eq,List.replicate_eq_nil_iff];omega);rw [List.length_replicate] at*;have hne:px≠lb:=fun e=>hxy px 0 _ 0 _ rfl (by rw [e]);obtain⟨M,hM⟩: ∃M,M=H.length:=⟨_,rfl⟩;have hpxl:=aK hpx2;have hlbl:=aK hlb2;have hNest:=eQ.ofNils (n:=1) hx;have hpa:=qD qa;have hpb:=qD qb;have hR0:wG h (H++[.cells 1 [aO a]]) q px lb M v (List.replicate v.pts.length .nil) (st0 v.pts.length):=by
    refine⟨by rw [zC hqa.2.1];exact hN,by rw [zC hlbl,Ue];exact hlb2,?_,fun b off len hm=> ?_,aI hB _,by simp;omega,⟨hne,by omega,by omega,by omega,by omega,by omega⟩⟩
    ·rw [Xw,List.length_replicate];exact hNest.more _
    ·simp at hm
   have hR1:=hR0.put (k:=gI v.pts a) (d:= .own M 0 1) (p:=[a]) (t:=0) (by simpa using hpa) (Ls.own (es:=[aO a]) (by simp [hM]) (Nat.le_refl _) (by simp) (by simp [aO])) (fun b off len _ off' len' hm=>by simp at hm);rw [Rq (b:=lb) (by
    rw [zJ hne,hR0.least];congr 2
    rw [Ue];refine List.ext_getElem? fun i=> ?_;by_cases e:gI v.pts a=i
    ·subst e;rw [zI (by simpa using hpa),List.getElem?_replicate,if_pos hpa]
    ·rw [zJ e]),←QX] at hR1
   simp [-aj,-au,-ah,-AV.solid,Jz,hqa,e1,e9,e10,e11,e12,e13,e14,hpx2,(zA.1 hpx2).2,hpxl,hpa];rw [←hM];refine aT.upL Jz mixed v.pts.length (fun r fr H=>fr 9= .ptr q 0 0∧fr 11= .int .i64 (gI v.pts b)∧fr 12= .own px 0 v.pts.length∧fr 13= .own lb 0 v.pts.length∧fr 15= .int .i64 r∧ ∃cs,wG h H q px lb M v cs (OW v a r 0)∧cs.length=v.pts.length) 0 (by omega)
    ⟨by simp [e9],by simp [e11],by simp [e12],by simp [e13],by simp,(List.replicate v.pts.length .nil).set (gI v.pts a) (.own M 0 1),?_,by simp⟩ ?_
   ·rw [Q3];have e:(H.set px (.cells 1 (((List.replicate v.pts.length AV.nil).map fun c=>[c]).set (gI v.pts a) [.own M 0 1])))++[bY.cells 1 [aO a]]=(H++[bY.cells 1 [aO a]]).set px (.cells 1 (((List.replicate v.pts.length AV.nil).map fun c=>[c]).set (gI v.pts a) [.own M 0 1])):=by
     rw [List.set_append_left _ _ hpxl]
    rw [←e] at hR1;simpa [aO] using hR1
   clear hR0 hR1 hNest hx hy hxf hyf hpx2 hlb2 e1 e9 e10 e11 e12 e13 e14 hN hB hqa hbl hi hge hxy hpxl hlbl;rintro r fr H hr ⟨e9,e11,e12,e13,e15,cs,hR,hcl⟩;have hok:=QZ ok qa r 0;rcases zN r v.pts.length with hltr | hger
   ·have ewr:=aB (i:=r) (by omega);simp [-aj,-au,-ah,-AV.solid,Jz,hR.all,e9,e11,e12,e13,e15,hltr];refine aT.upL Jz mixed v.lks.length (fun i fr H=>fr 9= .ptr q 0 0∧fr 11= .int .i64 (gI v.pts b)∧fr 12= .own px 0 v.pts.length∧fr 13= .own lb 0 v.pts.length∧fr 15= .int .i64 r∧fr 16= .int .i64 i∧ ∃cs,wG h H q px lb M v cs (OW v a r i)∧cs.length=v.pts.length) 0 (by omega)
     ⟨by simp [e9],by simp [e11],by simp [e12],by simp [e13],by simp [e15],by simp,cs,hR,hcl⟩ ?_
    clear hR hcl cs e9 e11 e12 e13 e15 hok;rintro i fr H hi ⟨e9,e11,e12,e13,e15,e16,cs,hR,hcl⟩;rcases zN i v.lks.length with hlt | hge
    ·obtain⟨x,hx,hx'⟩:=aJ hlt;have hxm:=zF hx;have ew:=aB (i:=i) (by omega);obtain⟨q1,q2,q3⟩:=ok.ends x hxm;obtain⟨r1,r2,r3⟩:=ok.rng x hxm;have hsu:=Q0 a r hx;have hsl:=Np hlk a r i (by omega);have hst:=QZ ok qa r i;generalize OW v a r i=st at*;have hstl:=hst.len;have p1:=qD q1;have p2:=qD q2;have g1:=Ie hstl q1;have g2:=Ie hstl q2;obtain⟨cj,hcj,hcj'⟩:=aJ (l:=cs) (i:=gI v.pts x.src) (by omega);obtain⟨ck,hck,hck'⟩:=aJ (l:=cs) (i:=gI v.pts x.dst) (by omega);have hRj:=(hR.nest.each _ _ _ hcj (AO g1)).1;have hRk:=(hR.nest.each _ _ _ hck (AO g2)).1;have hjf:=hRj.fix;have p1':gI v.pts x.src<cs.length:=by omega
     have p2':gI v.pts x.dst<cs.length:=by omega
     have hmle:=hR.mle;have hjl:=(hRj.append [.cells 4 [ja x]]).len2;simp only [ja] at hjl;simp [-aj,-au,-ah,-AV.solid,Jz,hR.all,e9,e11,e12,e13,e15,e16,hlt,hx,hx'];refine⟨by decide,ax.pure _ (fun _=>gz v.pts 64 x.src (by omega)) ?_⟩;rw [zG (by omega),w9 q1];simp [-aj,-au,-ah,-AV.solid,Jz,hR.all,e9,e11,e12,e13,e15,e16,hlt,hx,hx'];refine ax.pure _ (fun _=>gz v.pts 64 x.dst (by omega)) ?_;rw [zG (by omega),w9 q2];simp [-aj,-au,-ah,-AV.solid,Jz,hR.all,e9,e11,e12,e13,e15,e16,hlt,hx,hx',hcl,p1,p1',hcj,hcj',hjf,hjl,ew];by_cases hz:(iD v st x.src).1=[]
     ·simp [hz];have hR1:=hR.more [.cells 4 [ja x]];exact⟨i+1,by omega,by omega,by omega,cs,by rw [hsu,je,if_pos hz];exact hR1,hcl⟩
     ·obtain⟨l,s,w1,w2,w3,w4⟩:=hst.walk x.src q1 hz;have wr:=tV ok w2;have wlen:=Ig (v:=v) hsl x.src;have wlen2:=Ig (v:=v) hsl x.dst;have wl:l.length+1≤1+128*r+i:=by rw [w1] at wlen;simpa using wlen
      simp [-aj,-au,hz];refine aN (lo:=M) (n:=1) (es:=[]) (ys:=(iD v st x.src).1.map aO) Ls.nil (by simp;omega) (jQ (by simpa using hRj.append [.cells 4 [ja x]]) (by simp) (by simp) (by simp)) (by simp;omega) ?_;intro s1 H1 hs1 hg1 hn1;have hs1f:=hs1.rs.fix;have hR1:=(hR.more [.cells 4 [ja x]]).grow (by simpa using hg1) (fun b off len e=>by cases e) (by have:=hR.ne;omega);have hx1:H1[H.length]? =some (.cells 4 [ja x]):=hg1.keep _ _ (by simp) fun off len e=>by cases e
      have hx1':=zA.1 hx1;obtain⟨hx1a,hx1b⟩:=hx1';have hx1c:H.length<H1.length:=hx1a;have hmle1:=hR1.mle;have hl1:=hg1.len;rw [List.nil_append] at hs1;simp [-aj,-au,-ah,-AV.solid,Jz,hR1.all,e9,e11,e12,e13,e15,e16,hs1f,hx1,hx1b,hx1c];refine aN (lo:=M) (n:=1) (es:=(iD v st x.src).1.map aO) (ys:=[aO x.dst]) (by simpa [aO] using hs1.more [.cells 1 [aO x.dst]]) (by simp;omega) (by simp [bE,aO]) (by simp;omega) ?_;intro s2 H2 hs2 hg2 hn2;have hs2f:=hs2.rs.fix;have hnot1: ∀b off len,s1= .own b off len→M≤b∧ ∀off' len',AV.own b off' len'∉cs:=fun b off len e=>by
       have h1:=hn1 b off len e;simp at h1;exact⟨by omega,fun off' len' hm=>by have:=hR.nest.lt hm;omega⟩
      have hR2:=(hR1.more [.cells 1 [aO x.dst]]).grow (by simpa [aO] using hg2) hnot1 (by have:=hR.ne;omega);have hx2:H2[H.length]? =some (.cells 4 [ja x]):=hg2.keep _ _ (by rw [zC hx1c];exact hx1) fun off len e=>by have h1:=hn1 _ _ _ e;simp at h1;omega
      obtain⟨hx2c,hx2b⟩:=zA.1 hx2;have hl2:=hg2.len;have hRk2:=(hR2.nest.each _ _ _ hck (AO g2)).1;have hkf:=hRk2.fix;have hd1:(KE st)[gI v.pts x.src]? =some [.int .i64 (iD v st x.src).2]:=Ic g1;have hd2:(KE st)[gI v.pts x.dst]? =some [.int .i64 (iD v st x.dst).2]:=Ic g2;obtain⟨hd1l,hd1'⟩:=zA.1 hd1;obtain⟨hd2l,hd2'⟩:=zA.1 hd2;have hdl:=Ns st;have ewm:IntKind.i64.wrap ((iD v st x.src).2+x.min)=(iD v st x.src).2+x.min:=aC (by omega) (by omega);have hs2':Ls 1 M H2 s2 (((iD v st x.src).1++[x.dst]).map aO):=by simpa using hs2
      simp [-aj,-au,-ah,-AV.solid,Jz,hR2.all,e9,e11,e12,e13,e15,e16,hs2f,hx2,hx2b,hx2c,hcl,p1,p1',p2,p2',hck,hck',hkf,hd1,hd1',hd1l,hd2,hd2',hd2l,hdl,hstl,ewm];refine⟨by decide,ax.pure _ (fun _=>Hy ((iD v st x.src).2+x.min) (iD v st x.dst).2 ((iD v st x.src).1++[x.dst]) (iD v st x.dst).1 (by simp;omega) ?_ s2 ck hs2'.rs hRk2 (by omega)) ?_⟩
      ·intro z hz2;rcases List.mem_append.1 hz2 with hz2 | hz2
       ·rw [w1] at hz2;rcases List.mem_cons.1 hz2 with rfl | hz2
        ·exact Mc ok qa
        ·exact Mc ok ((Iu ok w2).1 z hz2)
       ·rw [List.mem_singleton.1 hz2];exact Mc ok q2
      ·have hnot2: ∀b off len,s2= .own b off len→ ∀off' len',AV.own b off' len'∉cs:=fun b off len e off' len' hm=>by
        have h1:=hn2 b off len e;have h2:=hR.nest.lt hm;simp at h1 hl1;omega
       have hput:=hR2.put (k:=gI v.pts x.dst) (d:=s2) (p:=(iD v st x.src).1++[x.dst]) (t:=(iD v st x.src).2+x.min) p2' hs2' hnot2;have hn:px≠lb:=hne;have hpH:px≠H.length:=by have:=hR.all.2.2.2.1;omega
       have hlH:lb≠H.length:=by have:=hR.all.2.1.2.1;omega
       simp [List.getElem_set,List.getElem?_set,hn,hpH,hlH,-aj,-au,-ah,-AV.solid,Jz,hR2.all,e9,e11,e12,e13,e15,e16,hs2f,hx2,hx2b,hx2c,hcl,p1,p1',p2,p2',hck,hck',hkf,hd1,hd1',hd1l,hd2,hd2',hd2l,hdl,hstl,ewm];refine⟨fun c=>⟨by decide,i+1,by omega,by omega,by omega,cs.set (gI v.pts x.dst) s2,?_,by simp [hcl]⟩,fun c=>⟨i+1,by omega,by omega,by omega,cs,?_,hcl⟩⟩
       ·rw [hsu,je,if_neg hz,if_pos c];exact hput
       ·rw [hsu,je,if_neg hz,if_neg (by simp [c])];exact hR2
    ·obtain rfl:i=v.lks.length:=by omega
     rw [Nn] at hR;simp [-aj,-au,-ah,-AV.solid,Jz,hR.all,e9,e11,e12,e13,e15,e16,ewr];exact⟨r+1,by omega,by omega,by omega,cs,hR,hcl⟩
   ·obtain rfl:r=v.pts.length:=by omega
    rw [QY] at hR hok;obtain⟨f1,f2⟩:=xE ok qa qb;generalize hst:Nq v a=st at*;have hstl:=hok.len;have g2:=Ie hstl qb;obtain⟨cb,hcb,hcb'⟩:=aJ (l:=cs) (i:=gI v.pts b) (by omega);obtain⟨hRb,hab⟩:=hR.nest.each _ _ _ hcb (AO g2);have hbf:=hRb.fix;have hd2:(KE st)[gI v.pts b]? =some [.int .i64 (iD v st b).2]:=Ic g2;obtain⟨hd2l,hd2'⟩:=zA.1 hd2;have hdl:=Ns st;have hlen:((iD v st b).1.length:Int)=0↔(iD v st b).1=[]:=by rw [←List.length_eq_zero_iff];omega
    have hpbc:gI v.pts b<cs.length:=by omega
    have hcond:aF v.pts a=true∧aF v.pts b=true:=⟨qa,qb⟩;simp [-aj,-au,-ah,-AV.solid,Jz,hR.all,e9,e11,e12,e13,e15,hcl,hpb,hpbc,hcb,hcb',hbf,hRb.len2,hlen,hd2,hd2',hd2l,hdl,hstl];refine⟨fun c=>⟨hR.base,?_⟩,fun c=>⟨by decide,hR.base,?_⟩⟩
    ·have hnone:iL v a b=none:=by unfold iL;rw [if_pos hcond,hst,if_pos c]
     rw [uL,hnone];exact .tup' (.cons .nil (.cons (.data _ (by simp)) (.cons (.data _ (by simp)) .nil)))
    ·have hsome:iL v a b=some (iD v st b):=by unfold iL;rw [if_pos hcond,hst,if_neg c]
     rw [uL,hsome];exact .tup' (.cons (hRb.frzD (fun b off len e=>by have:=(hab b off len e).1;omega) (gM _)) (.cons (.data _ (by simp)) (.cons (.data _ (by simp)) .nil)))
end Go.Proofs.YtkpioblbeiaefaaGreat
end
