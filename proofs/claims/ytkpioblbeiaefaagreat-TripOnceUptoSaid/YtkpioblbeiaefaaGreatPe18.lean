/- Part 18 of the lemmas below the statements of this seat: GrC. -/
import Derived.Test.YtkpioblbeiaefaaGreatPe17
set_option linter.unusedSectionVars false
set_option linter.unusedVariables false
set_option linter.unusedSimpArgs false
set_option linter.unnecessarySimpa false
set_option maxRecDepth 100000
namespace Go.Proofs.YtkpioblbeiaefaaGreat
open Go Go.Abs Go.Toll
variable {gl : aM} {h : ae}
theorem JC (c d:TC):aa Tryz.prog gl 205 [.agg (oM c),.agg (oM d)] h fun x h'=>x= .bool (tC c d)∧h'=h:=by
 refine aa.data (.bool _) (aa.body Tryz.f205 _ mixed Tryz.func205 rfl rfl (by simp [Tryz.ntmps205]) ?_);simp [tC];by_cases h1:c.time<d.time <;> by_cases h2:c.time=d.time <;> simp [h1,h2]
structure mW (h H:ae)(p m:Nat)(v:bg)(L:List TC):Prop where
 rr:H[p]? =some (.cells 3 [aS v m])
 out:H[p+1]? =some (.cells 2 (L.map oM))
 ple:h.length≤p
 base: ∃g,H=h++g
section
variable {H H' : ae} {p m : Nat} {v : bg} {L : List TC}
theorem mW.all (c:mW h H p m v L):(H[p]? =some (.cells 3 [aS v m])∧p<H.length∧ ∀hl:p<H.length,H[p]= .cells 3 [aS v m])∧H[p+1]? =some (.cells 2 (L.map oM))∧p+1<H.length∧ ∀hl:p+1<H.length,H[p+1]= .cells 2 (L.map oM):=
 ⟨⟨c.rr,(zA.1 c.rr).1,fun _=>(zA.1 c.rr).2⟩,c.out,(zA.1 c.out).1,fun _=>(zA.1 c.out).2⟩
theorem mW.more (c:mW h H p m v L)(g:ae):mW h (H++g) p m v L:=
 ⟨by rw [zC c.all.1.2.1];exact c.rr,by rw [zC c.all.2.2.1];exact c.out,c.ple,aF c.base g⟩
theorem mW.set (c:mW h H p m v L)(L':List TC):mW h (H.set (p+1) (.cells 2 (L'.map oM))) p m v L':=
 ⟨by rw [zJ (by omega)];exact c.rr,zI c.all.2.2.1,c.ple,dI c.base (by have:=c.ple;omega) _⟩
end
set_option maxHeartbeats 8000000 in
theorem GR (v:bg)(m:Nat)(b:Bytes)(ok:aU v)(hb:aG v.pts b=true):aa Tryz.prog gl 195 [.agg (aS v m),.int .i64 (aV v b)] h fun x h'=>(∃L,x= .ro (L.map oM)∧Qk v b L)∧h'=h:=by
 refine aa.freshR (aa.body Tryz.f195 _ mixed Tryz.func195 rfl rfl (by simp [Tryz.ntmps195]) ?_);have hnl:(bu v).length≤64:=by rw [kJ];exact ok.plen
 have hlk:=ok.llen;have hpb:=dD hb;obtain⟨p,hp⟩: ∃p,p=h.length:=⟨_,rfl⟩;simp [aS];refine⟨by omega,?_⟩;have hC0:mW h (h++[.cells 3 [aS v m],.cells 2 (List.replicate (bu v).length [.int .i64 0,.int .i64 0])]) p m v (mg (bu v).length 0):=by
  refine⟨by simp [hp],?_,by omega,_,rfl⟩;rw [JH];simp [hp]
 rw [←hp];refine aT.up mixed (bu v).length (fun i fr H=>fr 1= .int .i64 (aV v b)∧fr 2= .ptr p 0 0∧fr 5= .own (p+1) 0 (bu v).length∧fr 17= .int .i64 (bu v).length∧fr 18= .int .i64 i∧mW h H p m v (mg (bu v).length i)) 0 (by omega)
  ⟨by simp,by simp,by simp,by simp,by simp,by simpa [aS] using hC0⟩ ?_
 clear hC0;rintro i fr H hi ⟨e1,e2,e5,e17,e18,hC⟩;have hil:=Mw hi;rcases zN i (bu v).length with hlt | hge
 ·have ew:=aC (i:=i) (by omega);have hg:=Mv hlt;have hg':=(zA.1 hg).2;have hs:=Mx hlt;have hC1:=hC.set (mg (bu v).length (i+1));rw [←hs,List.map_set] at hC1;simp [e1,e2,e5,e17,e18,hlt,hC.all,hil,hg,hg',ew];refine⟨i+1,by omega,by omega,by omega,?_⟩;rw [←hs];simpa [Cq] using hC1
 ·obtain rfl:i=(bu v).length:=by omega
  rw [Mt] at hC;have hst:=jm.start ok hb;have hC1:=hC.set ((List.replicate (bu v).length Cq).set (aV v b) ⟨0,0⟩);have hpb':(List.replicate (bu v).length Cq)[aV v b]? =some Cq:=by rw [List.getElem?_replicate,if_pos hpb]
  rw [List.map_set] at hC1;simp [e1,e2,e5,e17,e18,hC.all,hpb,hpb',Cq];have hC2:mW h (H.set (p+1) (.cells 2 ((List.replicate (bu v).length [.int .i64 0,.int .i64 (-1)]).set (aV v b) [.int .i64 0,.int .i64 0]))) p m v ((List.replicate (bu v).length Cq).set (aV v b) ⟨0,0⟩):=by
   have e:List.map oM (List.replicate (bu v).length Cq)=List.replicate (bu v).length [AV.int .i64 0,.int .i64 (-1)]:=by rw [List.map_replicate];rfl
   rw [e] at hC1;exact hC1
  generalize (List.replicate (bu v).length Cq).set (aV v b) ⟨0,0⟩=Ls at hst hC2;refine aT.down mixed (fun M fr H=>fr 2= .ptr p 0 0∧fr 5= .own (p+1) 0 (bu v).length∧ ∃ch L,fr 7= .bool ch∧mW h H p m v L∧jm v b L∧VR v ch L M) (2*CR Ls+1)
   ⟨by simp [e2],by simp [e5],true,Ls,by simp,hC2,hst,⟨by simp,by simp⟩⟩ ?_
  clear hC hC1 hC2 hst hil e1 e2 e5 e17 e18 hpb' hi hge;rintro M fr H ⟨e2,e5,ch,L,e7,hC,hok,⟨hfx,rfl⟩⟩;have hll:=hok.len
  cases ch with
  | false=>
   simp [-Bool.exists_bool,e2,e5,e7];refine⟨hC.base,_,?_,L,rfl,hok.opt ok (hfx rfl)⟩;have:=qd.ownD (n:=p) (b:=p+1) (off:=0) (len:=L.length) (es':=L.map oM) hC.out (by omega) (by simp) (by simp [zG]) (by
    intro e he y hy;obtain⟨c,_,rfl⟩:=List.mem_map.1 he;simp at hy;rcases hy with rfl | rfl <;> simp)
   rwa [hll] at this
  | true=>
   simp [-Bool.exists_bool,e2,e5,e7];refine aT.up mixed (bu v).length (fun i fr H=>fr 2= .ptr p 0 0∧fr 5= .own (p+1) 0 (bu v).length∧fr 32= .int .i64 (bu v).length∧fr 33= .int .i64 i∧ ∃ch L',fr 7= .bool ch∧mW h H p m v L'∧jm v b L'∧Cs v L ch L' i) 0 (by omega)
    ⟨by simp [e2],by simp [e5],by simp,by simp,false,L,by simp,hC,hok,Cs.start v L⟩ ?_
   clear hC hok hfx e2 e5 e7 hll;rintro i fr H hi ⟨e2,e5,e32,e33,ch,L',e7,hC,hok,hw⟩;have hll:=hok.len;rcases zN i (bu v).length with hlt | hge
   ·obtain⟨s,hs,_⟩:=aN hlt;obtain⟨hsp,hsi⟩:=LD ok hs;have hrow:=lW hs;have hrl:=(zA.1 hrow).1;have hrow':=(zA.1 hrow).2;have hrlen:=oD v s;have ew:=aC (i:=i) (by omega);simp [-Bool.exists_bool,aS,hC.all,e2,e5,e7,e32,e33,hlt,hrow,hrow',hrl];refine aT.up mixed (rowOf v s).length (fun k fr H=>fr 2= .ptr p 0 0∧fr 5= .own (p+1) 0 (bu v).length∧fr 32= .int .i64 (bu v).length∧fr 33= .int .i64 i∧fr 8= .int .i64 i∧fr 40= .ro ((rowOf v s).map bA)∧fr 41= .int .i64 (rowOf v s).length∧fr 42= .int .i64 k∧ ∃ch L',fr 7= .bool ch∧mW h H p m v L'∧jm v b L'∧Ct v L ch L' s k) 0 (by omega)
     ⟨by simp [e2],by simp [e5],by simp [e32],by simp [e33],by simp,by simp,by simp,by simp,ch,L',by simp [e7],hC,hok,Cs.open (by rw [hsi];exact hw)⟩ ?_
    clear hC hok hw e2 e5 e7 e32 e33 hll;rintro k fr H hk ⟨e2,e5,e32,e33,e8,e40,e41,e42,ch,L',e7,hC,hok,hw⟩;have hll:=hok.len;rcases zN k (rowOf v s).length with hltk | hgek
    ·obtain⟨r,hr,hr'⟩:=aN hltk;obtain⟨x,x1,x2,x3,x4⟩:=xw hr;subst x2;obtain⟨q1,q2,q3⟩:=ok.ends x x3;have q4:=dD q2;obtain⟨r1,r2,r3⟩:=ok.rng x x3;have hgd:=sN hll q2;have hgd':=(zA.1 hgd).2;have hgs:=sN hll hsp;rw [hsi] at hgs;have hgs':=(zA.1 hgs).2;have ewk:=aC (i:=k) (by omega);have hC1:=hC.more [.cells 3 [bA (aX v x)],.cells 2 [oM (dK v L' x.dst)]];by_cases hd:(dK v L' x.dst).pts<0
     ·simp [-Bool.exists_bool,aS,hC.all,e2,e5,e7,e8,e32,e33,e40,e41,e42,hltk,hr,hr',aX,hgd,hgd',hgs,hgs',hll,q4,hlt,ewk,hd];exact⟨k+1,by omega,by omega,by omega,L',by simpa [aX] using hC1,hok,hw.keep x1 (.inl hd)⟩
     ·have hrg:=hok.rng ok q2 (by omega);have ew2:IntKind.i64.wrap ((dK v L' x.dst).time+x.min)=(dK v L' x.dst).time+x.min:=aD (by omega) (by omega);have ew3:IntKind.i64.wrap ((dK v L' x.dst).pts+1)=(dK v L' x.dst).pts+1:=aD (by omega) (by omega);have hC3:=hC.more [.cells 3 [bA (aX v x)],.cells 2 [oM (iI (dK v L' x.dst) x)]];have hC4:=(hC.set (L'.set i (iI (dK v L' x.dst) x))).more [.cells 3 [bA (aX v x)],.cells 2 [oM (iI (dK v L' x.dst) x)]];rw [List.map_set] at hC4;simp [-Bool.exists_bool,aS,hC.all,e2,e5,e7,e8,e32,e33,e40,e41,e42,hltk,hr,hr',aX,hgd,hgd',hgs,hgs',hll,q4,hlt,ewk,hd,ew2,ew3];refine⟨by decide,?_⟩;refine ax.pure (.bool (tC (iI (dK v L' x.dst) x) (dK v L' s))) (fun _=>JC (iI (dK v L' x.dst) x) (dK v L' s)) ?_;simp [-Bool.exists_bool,aS,hC.all,e2,e5,e7,e8,e32,e33,e40,e41,e42,hltk,hr,hr',aX,hgd,hgd',hgs,hgs',hll,q4,hlt,ewk,hd,ew2,ew3];refine⟨fun c=> ?_,fun c1 c2=>⟨k+1,by omega,by omega,by omega,L',hC3,hok,hw.keep x1 (.inr (by rw [x4];exact⟨c1,c2⟩))⟩⟩;obtain⟨n1,n2⟩:=hok.step ok x3 (by omega) hb (by rw [x4];exact c);rw [x4,hsi] at n1 n2;exact⟨k+1,by omega,by omega,by omega,L'.set i (iI (dK v L' x.dst) x),hC4,n1,hw.turn n2⟩
    ·obtain rfl:k=(rowOf v s).length:=by omega
     simp [-Bool.exists_bool,e2,e5,e7,e8,e32,e33,e40,e41,e42,ew];exact⟨i+1,by omega,by omega,by omega,L',hC,hok,by have:=hw.close ok hsp (by rw [rowOf,List.length_map];exact Nat.le_refl _);rwa [hsi] at this⟩
   ·obtain rfl:i=(bu v).length:=by omega
    simp [-Bool.exists_bool,e2,e5,e7,e32,e33];exact⟨2*CR L'+ch.toNat,hw.down,L',hC,hok,⟨fun c x hx=>(hw.still c).2 x hx (dD (ok.ends x hx).1),rfl⟩⟩
set_option maxHeartbeats 8000000 in
theorem Aw (n:bg)(a b:Bytes)(hp:n.pts.length≤1000)(hl:n.lks.length≤1000):aa Tryz.prog gl 184 [.agg (dB n),.str a,.str b] h fun x h'=>x=Gt (bW n) a b∧h'=h:=by
 refine aa.fresh' (aa.body Tryz.f184 _ mixed Tryz.func184 rfl rfl (by simp [Tryz.ntmps184]) ?_);have ok:=xE n;simp;refine ax.any (nG n hp hl) ?_;rintro x h1 ⟨m,g,rfl,hh1,hmge,hm⟩;generalize bW n=v at*;have hM:wM h1 m v:=⟨hm⟩;have hB: ∃g1,h1=h++g1:=⟨_,by rw [hh1,zK]⟩;clear hh1 hmge;have hR:=fP.new hM hB;obtain⟨p,hp⟩: ∃p,p=h1.length:=⟨_,rfl⟩;have hml:=hM.lt;have hbl:=cu hB;simp [aS];refine ax.pure _ (fun _=>Ay v m a b (hM.more _)) ?_;simp [aS];refine⟨fun q=> ?_,fun qa qb=> ?_⟩
 ·have hnone:l9 v a b=none:=by
   unfold l9;rw [if_neg];rintro⟨c1,c2⟩;rcases q with q | q <;> simp_all
  rw [Gt,hnone];exact⟨aF hB _,.tup' (.cons .nil (.cons (.data _ (by simp)) (.cons (.data _ (by simp)) .nil)))⟩
 ·have ea:numOf v a=(aV v a:Int):=by rw [numOf,if_pos qa]
  have eb:numOf v b=(aV v b:Int):=by rw [numOf,if_pos qb]
  rw [ea,eb];refine ax.any (GR v m b ok qb) ?_;rintro x h2 ⟨⟨L,rfl,hC⟩,rfl⟩;have hll:=hC.ok.len;have hga:=sN hll qa;have hga':=(zA.1 hga).2;have hpa:=dD qa;have hlk:=ok.llen;simp [aS,hga,hga',hll,hpa];refine⟨fun c=> ?_,fun c=> ?_⟩
  ·have hnone:l9 v a b=none:=Jj ok fun l s h1 h2=>by
    have:=(hC.opt l a s qa h1 h2).1;omega
   rw [Gt,hnone];exact⟨aF hB _,.tup' (.cons .nil (.cons (.data _ (by simp)) (.cons (.data _ (by simp)) .nil)))⟩
  ·rw [←hp] at hR ⊢;have hsh:=hC.short ok qa c;have hpb:=dD qb;have hR1:=hR.more [.cells 1 [aR a]];refine aT.down mixed (fun M fr H=>fr 9= .ptr p 0 0∧fr 10= .int .i64 (aV v a)∧fr 11= .int .i64 (aV v b)∧fr 13= .ro (L.map oM)∧ ∃o x u,fr 14=o∧fr 15= .int .i64 (aV v u)∧fP h H p m v∧Ls 1 (p+1) H o ((a::x).map aR)∧zq v a b L x u∧M=(dK v L u).pts.toNat) (dK v L a).pts.toNat
    ⟨by simp,by simp,by simp,by simp,.own (p+1) 0 1,[],a,by simp,by simp,by simpa [aS,aR] using hR1,Ls.own (es:=[aR a]) (by simp [aR,hp]) (by omega) (by simp) (by simp [aR]),zq.start qa c,rfl⟩ ?_
   clear hR hR1;rintro M fr H ⟨e9,e10,e11,e13,o,x,u,e14,e15,hR,hL,hW,rfl⟩;have hf:=hL.rs.fix;have hxl:=hW.len;have hup:=dD hW.pt;have hRl:=hR.all.1.2.1;by_cases hub:u=b
   ·subst hub;have hbest:=Jk ok qa qb (hW.best ok hC qa);simp [-ak,-av,-ai,-AV.solid,e9,e10,e11,e13,e14,e15,hf,hga,hga',hll,hpa];rw [Gt,hbest];exact⟨by decide,hR.base,.tup' (.cons (hL.frz (by omega) (mM _)) (.cons (.data _ (by simp)) (.cons (.data _ (by simp)) .nil)))⟩
   ·have hne: ¬(aV v u:Int)=aV v b:=fun e=>hub (gu ok hW.pt qb (by omega));have hrow:=lW (fD hW.pt);have hrl:=(zA.1 hrow).1;have hrow':=(zA.1 hrow).2;have hrlen:=oD v u;have hgu:=sN hll hW.pt;have hgu':=(zA.1 hgu).2;simp [-ak,-av,-ai,-AV.solid,aS,hR.all,e9,e10,e11,e13,e14,e15,hf,hne,hrow,hrow',hrl];refine aT.up mixed (rowOf v u).length (fun k fr H=>fr 9= .ptr p 0 0∧fr 10= .int .i64 (aV v a)∧fr 11= .int .i64 (aV v b)∧fr 13= .ro (L.map oM)∧fr 14=o∧fr 15= .int .i64 (aV v u)∧fr 50= .ro ((rowOf v u).map bA)∧fr 51= .int .i64 (rowOf v u).length∧fr 52= .int .i64 k∧
      fP h H p m v∧Ls 1 (p+1) H o ((a::x).map aR)∧ ∀j z,j<k→(jJ v u)[j]? =some z→ ¬ru v L z) 0 (by omega)
     ⟨by simp [e9],by simp [e10],by simp [e11],by simp [e13],by simp [e14],by simp [e15],by simp,by simp,by simp,hR,hL,fun j z hj=>by omega⟩ ?_
    clear hR hL e9 e10 e11 e13 e14 e15 hRl;rintro k fr H hk ⟨e9,e10,e11,e13,e14,e15,e50,e51,e52,hR,hL,hno⟩;have hRl:=hR.all.1.2.1;rcases zN k (rowOf v u).length with hlt | hge
    ·obtain⟨r,hr,hr'⟩:=aN hlt;obtain⟨y,y1,rfl,y3,y4⟩:=xw hr;obtain⟨q1,q2,q3⟩:=ok.ends y y3;have q4:=dD q2;obtain⟨r1,r2,r3⟩:=ok.rng y y3;have hgd:=sN hll q2;have hgd':=(zA.1 hgd).2;have ewk:=aC (i:=k) (by omega);have hpd:=fD q2;have hpd':=(zA.1 hpd).2;have hon:=M3 (v:=v) (L:=L) y;rw [y4] at hon;have hR1:=hR.more [.cells 3 [bA (aX v y)],.cells 2 [oM (dK v L y.dst)]];have hL1:=hL.more [.cells 3 [bA (aX v y)],.cells 2 [oM (dK v L y.dst)]];have hmiss: ¬ru v L y→ ∀j z,j<k+1→(jJ v u)[j]? =some z→ ¬ru v L z:=fun hn j z hj hz=>by
      rcases zN j k with h1 | h1
      ·exact hno j z h1 hz
      ·obtain rfl:j=k:=by omega
       rw [y1] at hz;rw [←Option.some.inj hz];exact hn
     by_cases hd:(dK v L y.dst).pts<0
     ·have hd': ¬0≤(dK v L y.dst).pts:=by omega
      simp [-ak,-av,-ai,-AV.solid,aS,hR.all,e9,e10,e11,e13,e14,e15,e50,e51,e52,hlt,hr,hr',aX,hgd,hgd',hgu,hgu',hll,q4,hup,ewk,hd,hd'];exact⟨by decide,k+1,by omega,by omega,by omega,hR1,hL1,hmiss fun hc=>hd' hc.1⟩
     ·have hrg:=hC.ok.rng ok q2 (by omega);have ew2:IntKind.i64.wrap ((dK v L y.dst).time+y.min)=(dK v L y.dst).time+y.min:=aD (by omega) (by omega);have ew3:IntKind.i64.wrap ((dK v L y.dst).pts+1)=(dK v L y.dst).pts+1:=aD (by omega) (by omega);have hd':0≤(dK v L y.dst).pts:=by omega
      simp [-ak,-av,-ai,-AV.solid,aS,hR.all,e9,e10,e11,e13,e14,e15,e50,e51,e52,hlt,hr,hr',aX,hgd,hgd',hgu,hgu',hll,q4,hup,ewk,hd,hd',ew2,ew3,hf,aR,hpd,hpd'];refine⟨by decide,fun c1 c2=> ?_,fun cc=>⟨k+1,by omega,by omega,by omega,hR1,hL1,hmiss fun hc=> ?_⟩⟩
      ·have hyon:ru v L y:=hon.2 ⟨hd',c1,c2⟩;obtain⟨hW1,hW2⟩:=hW.step ok hC y1 hyon hno;refine Di (lo:=p+1) (n:=1) (es:=(a::x).map aR) (ys:=[aR y.dst]) (by simpa [aR,aX] using hL.more [.cells 3 [bA (aX v y)],.cells 2 [oM (dK v L y.dst)],.cells 1 [aR y.dst]]) (by simp;omega) (by simp [bF,aR]) (by simp;omega) ?_;intro s1 H1 hs1 hg1;have hs1f:=hs1.rs.fix;have hR2:=(hR.more [.cells 3 [bA (aX v y)],.cells 2 [oM (dK v L y.dst)],.cells 1 [aR y.dst]]).grow (by simpa [aR,aX] using hg1) hL.above (by omega) (by omega) (by omega);simp [-ak,-av,-ai,-AV.solid,e9,e10,e11,e13,hs1f];exact⟨(dK v L y.dst).pts.toNat,by omega,x++[y.dst],y.dst,rfl,hR2,by simpa [aR] using hs1,hW1,rfl⟩
      ·exact cc (hon.1 hc).2.1 (hon.1 hc).2.2
    ·exfalso
     obtain⟨z,z1,z2,z3⟩:=hW.exists ok hC hub;obtain⟨j,hj⟩:=List.getElem?_of_mem ((gW v u z).2 ⟨z1,z2⟩);exact hno j z (by have:=aK hj;rw [rowOf,List.length_map] at hge;omega) hj z3
end Go.Proofs.YtkpioblbeiaefaaGreat
