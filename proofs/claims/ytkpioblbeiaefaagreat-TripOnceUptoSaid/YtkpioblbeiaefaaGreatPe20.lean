/- Part 20 of the lemmas below the statements of this seat: ChainA, ChainB, ChainC. -/
import Derived.Test.YtkpioblbeiaefaaGreatPe19
set_option linter.unusedSectionVars false
set_option linter.unusedVariables false
set_option linter.unusedSimpArgs false
set_option linter.unnecessarySimpa false
set_option maxRecDepth 100000
section
namespace Go.Proofs.YtkpioblbeiaefaaGreat
open Go Go.Abs Go.Toll
variable {gl : aM} {h : ae}
def kL (v:bg)(l:List aA)(i:Nat):List (List AV):=(List.range i).map fun i=>[AV.ro ((jP (gL v l) l.length i).map bK)]
theorem Kl (v:bg)(l:List aA)(i:Nat):kL v l (i+1)=kL v l i++[[AV.ro ((jP (gL v l) l.length i).map bK)]]:=by rw [kL,List.range_succ,List.map_append,kL];rfl
theorem Eg (v:bg)(l:List aA)(i:Nat):(kL v l i).length=i:=by simp [kL]
theorem Nk {v:bg} {l:List aA} {n i:Nat} (h:i<n):(kL v l n)[i]? =some [AV.ro ((jP (gL v l) l.length i).map bK)]:=by simp [kL,h]
theorem Kk (v:bg)(l:List aA)(i:Nat): ∀e∈kL v l i,∀y∈e,y.Data:=by
 intro e he y hy;obtain⟨k,_,rfl⟩:=List.mem_map.1 he;simp at hy;subst hy;exact .ro _ fun e he y hy=>by
  obtain⟨m,_,rfl⟩:=List.mem_map.1 he;simp [bK] at hy;subst hy;simp
theorem DZ (l:List Nat): ∀e∈l.map bK,∀y∈e,y.Data:=by
 intro e he y hy;obtain⟨m,_,rfl⟩:=List.mem_map.1 he;simp [bK] at hy;subst hy;simp
set_option maxHeartbeats 4000000 in
theorem Cw (t:aZ)(l:List aA)(hn:l.length≤1000000)(hp:t.net.pts.length≤1000)(hl:t.net.lks.length≤1000)(hs:t.sys.length≤1000):aa Tryz.prog gl 139 [.agg (ay t),.ro (l.map aj)] h fun v h'=>v= .ro (kL (aI t).net l l.length)∧h'=h:=by
 refine aa.fresh' (aa.body Tryz.f139 _ mixed Tryz.func139 rfl rfl (by simp [Tryz.ntmps139]) ?_);obtain⟨n,hnn⟩: ∃n,n=l.length:=⟨_,rfl⟩;simp [←hnn];refine aT.upF 12 mixed n (fun i fr H=>fr 1= .ro (l.map aj)∧fr 2= .ptr h.length 0 0∧fr 11= .ro (l.map aj)∧fr 12= .int .i64 n∧fr 13= .int .i64 i∧H[h.length]? =some (.cells 3 [ay t])∧(∃g,H=h++g)∧ ∃x,fr 5=x∧Ls 1 (h.length+1) H x (kL (aI t).net l i)) 0 (by omega)
  ⟨by simp,by simp,by simp,by simp,by simp,by simp,by simp,.nil,by simp,by simpa [kL] using Ls.nil⟩ ?_
 rintro i fr H hi ⟨e1,e2,e11,e12,e13,hT,hB,x,e5,hx⟩;have hxf:=hx.rs.fix;have hT3:=at3 hT;simp only [ay] at hT3;have hlen:=cu hB;rcases zN i n with hlt | hge
 ·obtain⟨a,ha,ha'⟩:=aN (l:=l) (i:=i) (by omega);have hil:i<l.length:=by omega
  have ew:=aC (i:=i) (by omega);obtain⟨p0,hp0⟩: ∃p0,p0=H.length:=⟨_,rfl⟩;have hxin:=hx.inside;have hph:h.length<p0:=by rw [hp0];exact hT3.2.1
  simp [←hnn,e1,e2,e5,e11,e12,e13,hlt,hil,ha,ha',hxf];refine aT.up mixed n (fun j fr H'=>fr 1= .ro (l.map aj)∧fr 2= .ptr h.length 0 0∧fr 11= .ro (l.map aj)∧fr 12= .int .i64 n∧fr 13= .int .i64 i∧fr 5=x∧fr 7= .ptr p0 0 0∧fr 18= .ro (l.map aj)∧fr 19= .int .i64 n∧fr 20= .int .i64 j∧
    H'[h.length]? =some (.cells 3 [ay t])∧H'[p0]? =some (.cells 8 [aj a])∧(∃g,H'=h++g)∧p0+1≤H'.length∧Ls 1 (h.length+1) H' x (kL (aI t).net l i)∧ ∃y,fr 8=y∧Lz 1 (p0+1) H' y ((yD (gL (aI t).net l) i j).map bK)) 0 (by omega)
   ⟨by simp [e1],by simp [e2],by simp [e11],by simp [e12],by simp [e13],by simp [e5],by simp [hp0],by simp,by simp,by simp,aL hT _,by simp [hp0],aF hB _,by simp [hp0],hx.more _,.own (p0+1) 0 0,by simp [hp0],.inl (Ls.own (by simp [hp0,yD]) (by omega) (by simp [yD]) (by simp [yD]))⟩ ?_
  clear e1 e2 e5 e11 e12 e13 hT hT3 hB hx hlen;rintro j fr H' hj ⟨e1,e2,e11,e12,e13,e5,e7,e18,e19,e20,hT,hA,hB,hpl,hx,y,e8,hy⟩;have hlen:=cu hB;have hT3:=at3 hT;have hA3:=at3 hA;simp only [ay,dm] at hT3 hA3;have hyf:=hy.rs.fix;have hfl:=OC (gL (aI t).net l) i j;rcases zN j n with hjlt | hjge
  ·obtain⟨b,hb,hb'⟩:=aN (l:=l) (i:=j) (by omega);have hjl:j<l.length:=by omega
   have ewj:=aC (i:=j) (by omega);have hsuc:=Ms (gL (aI t).net l) i j;have hfe:xO (aI t).net a.point b.point a.time b.time=gL (aI t).net l i j:=(Ru ha hb).symm;have hne:h.length≠H'.length:=by omega
   have hne2:p0≠H'.length:=by omega
   simp [-ak,-av,-ai,-AV.solid,←hnn,e1,e2,e5,e7,e11,e12,e13,e18,e19,e20,e8,hjlt,hjl,hb,hb',hxf,hyf,hT3,hA3];refine ax.pure _ (fun _=>wG t a b hp hl hs) ?_;simp [-ak,-av,-ai,-AV.solid,e1,e2,e5,e7,e11,e12,e13,e18,e19,e20,e8,hxf,hyf,hfe];refine⟨fun c=> ?_,fun c=> ?_⟩
   ·rw [if_pos c] at hsuc;refine LX (lo:=p0+1) (n:=1) (es:=(yD (gL (aI t).net l) i j).map bK) (ys:=[bK j]) (by simpa [bK] using hy.more _) (by simp;omega) (by simp [bF,bK]) (by simp;omega) ?_;intro s1 H1 hs1 hg1 hn1;have hs1f:=hs1.rs.fix;have hk1: ∀b o,b<p0+1→H'[b]? =some o→H1[b]? =some o:=fun b o hb ho=>hg1.keep b o (aL ho _) fun off len e=>by have:=hy.above _ _ _ e;omega
    have hB1:=hg1.base h (by omega) (aF hB _);have hx1:Ls 1 (h.length+1) H1 x (kL (aI t).net l i):=(hx.more _).grow hg1 fun b eb hbl off len e=>by have:=hxin _ _ _ eb;have:=hy.above _ _ _ e;omega
    have hl1:=hg1.len;simp [-ak,-av,-ai,-AV.solid,e1,e2,e5,e7,e11,e12,e13,e18,e19,e20,hs1f,hxf,ewj];simp at hl1;exact⟨j+1,by omega,by omega,by omega,hk1 _ _ (by omega) hT,hk1 _ _ (by omega) hA,hB1,by omega,hx1,by rw [hsuc];simpa using hs1⟩
   ·rw [if_neg (by simp [c])] at hsuc;simp [-ak,-av,-ai,-AV.solid,e1,e2,e5,e7,e11,e12,e13,e18,e19,e20,e8,hxf,hyf,ewj,hT3,hA3];exact⟨j+1,by omega,by omega,by omega,aF hB _,by omega,hx.more _,by rw [hsuc];exact hy.more _⟩
  ·obtain rfl:n=j:=by omega
   have hfa:yD (gL (aI t).net l) i n=jP (gL (aI t).net l) l.length i:=by rw [hnn];rfl
   rw [hfa] at hy hfl;simp [e1,e2,e5,e7,e11,e12,e13,e18,e19,e20,e8,hxf,hyf];refine aT.freezeL 8 (by simp [e8]) hy ?_;intro fr1 H1 q8 qf hg1 hl1;have f1:fr1 1= .ro (l.map aj):=by rw [qf 1 (by decide)];simp [e1]
   have f2:fr1 2= .ptr h.length 0 0:=by rw [qf 2 (by decide)];simp [e2]
   have f5:fr1 5=x:=by rw [qf 5 (by decide)];simp [e5]
   have f11:fr1 11= .ro (l.map aj):=by rw [qf 11 (by decide)];simp [e11]
   have f12:fr1 12= .int .i64 n:=by rw [qf 12 (by decide)];simp [e12]
   have f13:fr1 13= .int .i64 i:=by rw [qf 13 (by decide)];simp [e13]
   have hk1: ∀b o,b<p0+1→H'[b]? =some o→H1[b]? =some o:=fun b o hb ho=>hg1.keep b o ho fun off len e=>by have:=hy.above _ _ _ e;omega
   have hB1:=hg1.base h (by omega) hB;have hx1:Ls 1 (h.length+1) H1 x (kL (aI t).net l i):=hx.grow hg1 fun b eb hbl off len e=>by have:=hxin _ _ _ eb;have:=hy.above _ _ _ e;omega
   have hT1:=hk1 _ _ (by omega) hT;have hrl:=Eg (aI t).net l i;have hsuc:=Kl (aI t).net l i;refine aT.of_awp mixed _ _ _ _ ?_;simp [-ak,-av,-ai,-AV.solid,f1,f2,f5,f11,f12,f13,q8,hxf];refine aO (lo:=h.length+1) (n:=1) (es:=kL (aI t).net l i) (ys:=[[AV.ro ((jP (gL (aI t).net l) l.length i).map bK)]]) (by simpa using hx1.more _) (by simp;omega) (by simp [bF]) (by simp;omega) ?_;intro s2 H2 hs2 hg2 hn2;have hs2f:=hs2.rs.fix;have hB2:=hg2.base h (by omega) (aF hB1 _);have hT2:=hg2.keep _ _ (aL hT1 _) fun off len e=>by have:=hx1.above _ _ _ e;omega
   simp [-ak,-av,-ai,-AV.solid,f1,f2,f11,f12,f13,hs2f,ew];exact⟨i+1,by omega,by omega,by omega,hT2,hB2,by rw [hsuc];exact hs2⟩
 ·obtain rfl:n=i:=by omega
  simp [e1,e2,e5,e11,e12,e13,hxf];exact⟨hB,hx.frz (by omega) (Kk _ _ _)⟩
end Go.Proofs.YtkpioblbeiaefaaGreat
end
section
namespace Go.Proofs.YtkpioblbeiaefaaGreat
open Go Go.Abs Go.Toll
variable {gl : aM} {h : ae}
def oI (G:Nat→Nat→Bool)(n i m:Nat):List Nat:=(List.range n).map fun j=>if j=i then m else if i<j then kU G n j else 0
section
variable {G : Nat → Nat → Bool} {n i m m' : Nat}
theorem qA:(oI G n i m).length=n:=by simp [oI]
theorem qz {j:Nat} (h:j<n):(oI G n i m)[j]? =some (if j=i then m else if i<j then kU G n j else 0):=by simp [oI,h]
theorem Gs (h:i<n):(oI G n i m).set i m'=oI G n i m':=by
 refine List.ext_getElem? fun j=> ?_;by_cases hj:j=i
 ·subst hj;rw [zI (by rw [qA];exact h),qz h,if_pos rfl]
 ·rw [zJ (Ne.symm hj)];rcases zN j n with hl | hl
  ·rw [qz hl,qz hl,if_neg hj,if_neg hj]
  ·rw [List.getElem?_eq_none (by rw [qA];exact hl),List.getElem?_eq_none (by rw [qA];exact hl)]
def sU (G:Nat→Nat→Bool)(n c:Nat):List Nat:=(List.range n).map fun j=>if c≤j then kU G n j else 0
theorem zP:(sU G n i).length=n:=by simp [sU]
theorem L6:sU G n n=List.replicate n 0:=by
 refine List.ext_getElem? fun j=> ?_;rcases zN j n with hl | hl
 ·simp [sU,hl,List.getElem?_replicate];intro h;omega
 ·rw [List.getElem?_eq_none (by rw [zP];exact hl),List.getElem?_eq_none (by simpa using hl)]
theorem LZ:sU G n (i+1)=oI G n i 0:=by
 refine List.map_congr_left fun j hj=> ?_;by_cases h:j=i
 ·subst h;rw [if_neg (by omega),if_pos rfl]
 ·rw [if_neg h];by_cases h2:i<j
  ·rw [if_pos (by omega),if_pos h2]
  ·rw [if_neg (by omega),if_neg h2]
theorem Jg:oI G n i (kU G n i)=sU G n i:=by
 refine List.map_congr_left fun j hj=> ?_;by_cases h:j=i
 ·subst h;rw [if_pos rfl,if_pos (by omega)]
 ·rw [if_neg h];by_cases h2:i<j
  ·rw [if_pos h2,if_pos (by omega)]
  ·rw [if_neg h2,if_neg (by omega)]
theorem Oa {j:Nat} (h:j<n):(sU G n 0)[j]? =some (kU G n j):=by simp [sU,h]
theorem Jy {l:List Nat} {q j:Nat} (h:l[q]? =some j):iJ i (kU G n) (l.take (q+1)) m=if i<j then max (iJ i (kU G n) (l.take q) m) (kU G n j+1) else iJ i (kU G n) (l.take q) m:=by
 rw [zM,h];unfold iJ;rw [List.foldl_append];rfl
theorem vL {l:List Nat} (hl: ∀j∈l,j<n)(hm:m≤n+1):iJ i (kU G n) l m≤n+1:=by
 rcases Ar (i:=i) (S:=kU G n) (l:=l) (m:=m) with e | ⟨j,h1,h2,e⟩
 ·omega
 ·have:=y8 (G:=G) (hl j h1);omega
end
theorem N7 (G:Nat→Nat→Bool)(k i:Nat):NW G (some k) i=G k i:=by simp [NW]
set_option maxHeartbeats 8000000 in
theorem Cx (t:aZ)(l:List aA)(hn:l.length≤1000000)(hp:t.net.pts.length≤1000)(hl:t.net.lks.length≤1000)(hs:t.sys.length≤1000):aa Tryz.prog gl 106 [.agg (ay t),.ro (l.map aj)] h fun v h'=>v= .ro ((qW (gL (aI t).net l) l.length).map bK)∧h'=h:=by
 refine aa.fresh' (aa.bodyF 9999 Tryz.f106 _ mixed Tryz.func106 rfl rfl (by simp [Tryz.ntmps106]) ?_);simp;refine ax.pure _ (fun _=>Cw t l hn hp hl hs) ?_;obtain⟨n,hnn⟩: ∃n,n=l.length:=⟨_,rfl⟩;obtain⟨G,hG⟩: ∃G,G=gL (aI t).net l:=⟨_,rfl⟩;obtain⟨R,hR⟩: ∃R,R=kL (aI t).net l l.length:=⟨_,rfl⟩;have hRl:R.length=n:=by rw [hR,hnn];exact Eg _ _ _
 have hRg: ∀i,i<n→R[i]? =some [AV.ro ((jP G n i).map bK)]:=fun i hi=>by rw [hR,hG,hnn];exact Nk (by omega)
 rw [←hR,←hG,←hnn];clear hR hG;simp [←hnn];refine⟨by omega,?_⟩;obtain⟨p,hp0⟩: ∃p,p=h.length+1:=⟨_,rfl⟩;have ew0:IntKind.i64.wrap ((n:Int) - 1)=(n:Int) - 1:=aD (by omega) (by omega);rw [ew0,←hp0];refine aT.up mixed n (fun k fr H=>fr 1= .ro (l.map aj)∧fr 5= .ro R∧fr 6= .own p 0 n∧fr 8= .int .i64 ((n:Int) - 1 - k)∧fr 7= .int .i64 (pu G n (n - k):Nat)∧H[p]? =some (.cells 1 ((sU G n (n - k)).map bK))∧(∃g,H=h++g)∧p<H.length) 0 (by omega)
  ⟨by simp,by simp,by simp,by simp,by simp [A8],?_,by simp,by simp [hp0]⟩ ?_
 ·rw [Nat.sub_zero,L6,List.map_replicate];simp [hp0,bK]
 rintro k fr H hk ⟨e1,e5,e6,e8,e7,hA,hB,hpl⟩;have hA3:=at3 hA;have hlen:=cu hB;rcases zN k n with hlt | hge
 ·obtain⟨i,hi⟩: ∃i,n - k=i+1:=⟨n - k - 1,by omega⟩;have hin:i<n:=by omega
  have ei:(n:Int) - 1 - k=(i:Int):=by omega
  rw [hi,LZ] at hA hA3;rw [hi] at e7;rw [ei] at e8;have hrow:=hRg i hin;have hrow':=(zA.1 hrow).2;have hi0:(0:Int)≤i:=by omega
  have hal:(oI G n i 0).length=n:=qA;have hset:((oI G n i 0).map bK).set i [.int .i64 1]=(oI G n i 1).map bK:=by rw [←Gs hin (m:=0) (m':=1),List.map_set];rfl
  have hinR:i<R.length:=by omega
  simp [e1,e5,e6,e7,e8,hA3,hrow,hrow',hin,hi0,hal,hRl,hset];have hA1:(H.set p (.cells 1 ((oI G n i 1).map bK)))[p]? =some (.cells 1 ((oI G n i 1).map bK)):=zI hpl;refine aT.up mixed (jP G n i).length (fun q fr H'=>fr 1= .ro (l.map aj)∧fr 5= .ro R∧fr 6= .own p 0 n∧fr 8= .int .i64 i∧fr 7= .int .i64 (pu G n (i+1):Nat)∧fr 35= .ro ((jP G n i).map bK)∧fr 36= .int .i64 (jP G n i).length∧fr 37= .int .i64 q∧
    H'[p]? =some (.cells 1 ((oI G n i (iJ i (kU G n) ((jP G n i).take q) 1)).map bK))∧(∃g,H'=h++g)∧p<H'.length) 0 (by omega)
   ⟨by simp [e1],by simp [e5],by simp [e6],by simp [e8],by simp [e7],by simp,by simp,by simp,by simpa [iJ] using hA1,dI hB (by omega) _,by simpa using hpl⟩ ?_
  clear hA hA3 hA1 e1 e5 e6 e7 e8 hB hpl;rintro q fr H' hq ⟨e1,e5,e6,e8,e7,e35,e36,e37,hA,hB,hpl⟩;have hA3:=at3 hA;have hmem: ∀j∈(jP G n i).take q,j<n:=fun j hj=>(mD.1 (List.mem_of_mem_take hj)).1;have hfb:=vL (G:=G) (n:=n) (i:=i) hmem (m:=1) (by omega);obtain⟨m,hm⟩: ∃m,m=iJ i (kU G n) ((jP G n i).take q) 1:=⟨_,rfl⟩;have hal:(oI G n i m).length=n:=qA;rcases zN q (jP G n i).length with hqlt | hqge
  ·obtain⟨j,hj,hj'⟩:=aN hqlt;have hjn:=(mD.1 (zF hj)).1;have ewq:=aC (i:=q) (by have:=GL (G:=G) (n:=n) i;omega);have hsuc:=Jy (G:=G) (n:=n) (i:=i) (m:=1) hj;rw [←hm] at hA hA3 hfb hsuc;have hgi:(oI G n i m)[i]? =some m:=by rw [qz hin,if_pos rfl]
   have hgi':=(zA.1 hgi).2;by_cases hij:i<j
   ·have hij':(i:Int)<j:=by omega
    have hgj:(oI G n i m)[j]? =some (kU G n j):=by rw [qz hjn,if_neg (by omega),if_pos hij]
    have hgj':=(zA.1 hgj).2;have hlj:=y8 (G:=G) hjn;have ewl:IntKind.i64.wrap ((kU G n j:Int)+1)=((kU G n j+1:Nat):Int):=by rw [aD (by omega) (by omega)];omega
    have emax:max (m:Int) ((kU G n j+1:Nat):Int)=((max m (kU G n j+1):Nat):Int):=by omega
    have hset:((oI G n i m).map bK).set i [.int .i64 ((max m (kU G n j+1):Nat):Int)]=(oI G n i (max m (kU G n j+1))).map bK:=by rw [←Gs hin (m:=m) (m':=max m (kU G n j+1)),List.map_set];rfl
    rw [if_pos hij] at hsuc;simp [-Int.natCast_add,e1,e5,e6,e7,e8,e35,e36,e37,hqlt,hj,hj',bK,hij,hij',hA3,hal,hin,hjn,hgi,hgi',hgj,hgj',ewl,ewq];refine⟨by decide,?_⟩;rw [emax,hset];exact⟨q+1,by omega,by omega,by omega,by rw [hsuc],dI hB (by omega) _⟩
   ·have hij': ¬(i:Int)<j:=by omega
    rw [if_neg hij] at hsuc;simp [-Int.natCast_add,e1,e5,e6,e7,e8,e35,e36,e37,hqlt,hj,hj',bK,hij,hij',ewq];exact⟨q+1,by omega,by omega,by omega,by rw [hsuc];exact hA,hB,hpl⟩
  ·obtain rfl:q=(jP G n i).length:=by omega
   rw [List.take_length] at hm;rw [←AQ hin] at hm;rw [List.take_length,←AQ hin,Jg] at hA;have hA3:=at3 hA;have hgi:(sU G n i)[i]? =some (kU G n i):=by simp [sU,hin]
   have hgi':=(zA.1 hgi).2;have hcl:(sU G n i).length=n:=zP;have hli:=y8 (G:=G) hin;have emax:max (pu G n (i+1):Int) (kU G n i:Int)=((pu G n i:Nat):Int):=by rw [r9 hin];omega
   have ewi:IntKind.i64.wrap ((i:Int) - 1)=(i:Int) - 1:=aD (by omega) (by omega);simp [e1,e5,e6,e7,e8,e35,e36,e37,hA3,hcl,hin,hgi,hgi',bK,emax,ewi];exact⟨k+1,by omega,by omega,by omega,by rw [show n - (k+1)=i by omega],by rw [show n - (k+1)=i by omega],hB⟩
 ·obtain rfl:n=k:=by omega
  rw [Nat.sub_self] at hA e7;have hcl:(sU G n 0).length=n:=zP;have e8:fr 8= .int .i64 (-1):=by rw [e8];congr 1;omega
  simp [e1,e5,e6,e7,e8,←hnn];refine aT.up mixed n (fun k fr H=>fr 5= .ro R∧fr 6= .own p 0 n∧fr 65= .int .i64 n∧fr 66= .int .i64 k∧H[p]? =some (.cells 1 ((sU G n 0).map bK))∧(∃g,H=h++g)∧p<H.length∧
    ∃(m:Nat) (O:List Nat) (x:AV),fr 7= .int .i64 m∧m≤n∧fr 11=x∧Ls 1 (p+1) H x (O.map bK)∧(∀j∈O,j<n)∧O.length≤k∧qW G n=O++ow G n ((List.range n).drop k) O.getLast? m) 0 (by omega)
   ⟨by simp [e5],by simp [e6],by simp,by simp,hA,hB,hpl,pu G n 0,[],.nil,by simp [e7],Lu n 0 rfl (by omega),by simp,Ls.nil,by simp,by simp,by simp [qW]⟩ ?_
  clear hA hA3 hB hpl e1 e5 e6 e7 e8 hlen hk;rintro k fr H hk ⟨e5,e6,e65,e66,hA,hB,hpl,m,O,x,e7,hm,e11,hx,hO,hOl,hL⟩;have hA3:=at3 hA;have hlen:=cu hB;have hxf:=hx.rs.fix;rcases zN k n with hlt | hge
  ·have ewk:=aC (i:=k) (by omega);by_cases hm0:m=0
   ·subst hm0;rw [Bt,List.append_nil] at hL;simp [e5,e6,e65,e66,e7,e11,hlt,hxf];exact⟨hB,by rw [hL];exact hx.frz (by omega) (DZ _)⟩
   ·rw [uL hlt,ow,if_neg hm0] at hL;have hgk:(sU G n 0)[k]? =some (kU G n k):=Oa hlt;have hgk':=(zA.1 hgk).2;have hm0': ¬(m:Int)=0:=by omega
    have hm1:((m - 1:Nat):Int)=(m:Int) - 1:=by omega
    have ewm:IntKind.i64.wrap ((m:Int) - 1)=((m - 1:Nat):Int):=by rw [aD (by omega) (by omega)];omega
    by_cases hlk:kU G n k=m
    ·have hlk':(kU G n k:Int)=m:=by omega
     rcases List.eq_nil_or_concat O with rfl | ⟨O0,last,rfl⟩
     ·rw [if_pos ⟨hlk,rfl⟩] at hL;simp [-ak,-av,-ai,-AV.solid,e5,e6,e65,e66,e7,e11,hlt,hxf,hm0,hm0',hA3,hcl,hgk,hgk',bK,hlk,hlk',hx.rs.len2];refine aO (lo:=p+1) (n:=1) (es:=[]) (ys:=[bK k]) (by simpa [bK] using hx.more _) (by simp;omega) (by simp [bF,bK]) (by simp) ?_;intro s1 H1 hs1 hg1 hn1;have hs1f:=hs1.rs.fix;have hk1: ∀b o,b<p+1→H[b]? =some o→H1[b]? =some o:=fun b o hb ho=>hg1.keep b o (aL ho _) fun off len e=>by have:=hx.above _ _ _ e;omega
      have hB1:=hg1.base h (by omega) (aF hB _);have hl1:=hg1.len;simp [-ak,-av,-ai,-AV.solid,e5,e6,e65,e66,e7,hs1f,ewm,ewk];simp at hl1;exact⟨k+1,by omega,by omega,by omega,hk1 _ _ (by omega) hA,hB1,by omega,m - 1,rfl,by omega,[k],by simpa [bK] using hs1,by simp [hlt],by simp,by simpa using hL⟩
     ·have hlast:last<n:=hO last (by simp);have hrow:=hRg last hlast;have hrow':=(zA.1 hrow).2;have hlR:last<R.length:=by omega
      have hOl':O0.length+1≤k:=by simpa using hOl
      have rx:=Rs.ix Tryz.prog hx.rs (O0.length:Nat) (by omega) (y:=[.int .i64 last]) (by simp [bK]);have ewo:IntKind.i64.wrap (O0.length:Int)=(O0.length:Int):=aD (by omega) (by omega);have hpos:(0:Int)<(O0.length:Int)+1:=by omega
      have hgl:(O0++[last]).getLast? =some last:=by simp
      simp only [List.concat_eq_append,hgl,N7] at hL hx hO;simp [-ak,-av,-ai,-AV.solid,e5,e6,e65,e66,e7,e11,hlt,hxf,hm0,hm0',hA3,hcl,hgk,hgk',bK,hlk,hlk',hx.rs.len2,rx,ewo,hpos,hrow,hrow',hlR];refine aT.up mixed (jP G n last).length (fun q fr H=>fr 5= .ro R∧fr 6= .own p 0 n∧fr 65= .int .i64 n∧fr 66= .int .i64 k∧H[p]? =some (.cells 1 ((sU G n 0).map bK))∧(∃g,H=h++g)∧p<H.length∧
        fr 7= .int .i64 m∧fr 11=x∧Ls 1 (p+1) H x ((O0++[last]).map bK)∧fr 12= .int .i64 k∧fr 89= .ro ((jP G n last).map bK)∧fr 90= .int .i64 (jP G n last).length∧fr 91= .int .i64 q∧k∉(jP G n last).take q) 0 (by omega)
       ⟨by simp [e5],by simp [e6],by simp [e65],by simp [e66],hA,hB,hpl,by simp [e7],by simp [e11],hx,by simp,by simp,by simp,by simp,by simp⟩ ?_
      clear e5 e6 e65 e66 e7 e11 hA hA3 hB hpl hx hxf rx hlen;rintro q fr H hq ⟨e5,e6,e65,e66,hA,hB,hpl,e7,e11,hx,e12,e89,e90,e91,hno⟩;have hlen:=cu hB;have hxf:=hx.rs.fix;rcases zN q (jP G n last).length with hqlt | hqge
      ·obtain⟨j,hj,hj'⟩:=aN hqlt;have ewq:=aC (i:=q) (by have:=GL (G:=G) (n:=n) last;omega);by_cases hjk:j=k
       ·subst hjk;have hg:G last j=true:=(mD.1 (zF hj)).2;rw [if_pos ⟨hlk,hg⟩] at hL;simp [-ak,-av,-ai,-AV.solid,e5,e6,e65,e66,e7,e11,e12,e89,e90,e91,hqlt,hj,hj',bK,hxf];refine aO (lo:=p+1) (n:=1) (es:=(O0++[last]).map bK) (ys:=[bK j]) (by simpa [bK] using hx.more _) (by simp;omega) (by simp [bF,bK]) (by simp;omega) ?_;intro s1 H1 hs1 hg1 hn1;have hs1f:=hs1.rs.fix;have hk1: ∀b o,b<p+1→H[b]? =some o→H1[b]? =some o:=fun b o hb ho=>hg1.keep b o (aL ho _) fun off len e=>by have:=hx.above _ _ _ e;omega
        have hB1:=hg1.base h (by omega) (aF hB _);have hl1:=hg1.len;simp [-ak,-av,-ai,-AV.solid,e5,e6,e65,e66,e7,hs1f,ewm,ewk];simp at hl1;exact⟨j+1,by omega,by omega,by omega,hk1 _ _ (by omega) hA,hB1,by omega,m - 1,rfl,by omega,O0++[last]++[j],by simpa [bK] using hs1,fun z hz=>by rcases List.mem_append.1 hz with q | q;exact hO z q;rw [List.mem_singleton.1 q];exact hlt,by simp;omega,by rw [hL,zK,zK];simp⟩
       ·have hjk': ¬(j:Int)=k:=by omega
        simp [e5,e6,e65,e66,e7,e11,e12,e89,e90,e91,hqlt,hj,hj',bK,hxf,hjk,hjk',ewq];refine⟨q+1,by omega,by omega,by omega,hB,hpl,by simpa [bK] using hx,by omega,fun hmem=> ?_⟩;rw [zM,hj] at hmem;rcases List.mem_append.1 hmem with c | c
        ·exact hno c
        ·exact hjk (by simp at c;exact c.symm)
      ·obtain rfl:q=(jP G n last).length:=by omega
       rw [List.take_length] at hno;have hg: ¬G last k=true:=fun c=>hno (mD.2 ⟨hlt,c⟩);rw [if_neg (fun c=>hg c.2)] at hL;simp [e5,e6,e65,e66,e7,e11,e12,e89,e90,e91,hxf,ewk];exact⟨k+1,by omega,by omega,by omega,hA,hB,hpl,m,rfl,by omega,O0++[last],by simpa using hx,by simpa using hO,by simp;omega,by rw [hgl];exact hL⟩
    ·have hlk': ¬(kU G n k:Int)=m:=by omega
     rw [if_neg (fun c=>hlk c.1)] at hL;simp [e5,e6,e65,e66,e7,e11,hlt,hxf,hm0,hm0',hA3,hcl,hgk,hgk',bK,hlk,hlk',ewk];exact⟨k+1,by omega,by omega,by omega,hB,m,rfl,by omega,O,hx,hO,by omega,hL⟩
  ·obtain rfl:n=k:=by omega
   rw [zH (by simp),ow,List.append_nil] at hL;simp [e5,e6,e65,e66,e7,e11,hxf];exact⟨hB,by rw [hL];exact hx.frz (by omega) (DZ _)⟩
end Go.Proofs.YtkpioblbeiaefaaGreat
end
section
namespace Go.Proofs.YtkpioblbeiaefaaGreat
open Go Go.Abs Go.Toll
variable {gl : aM} {h : ae}
theorem Tt {p:aA} (hp:p.Ok): ∀e∈p.sources,e.length=2:=by
 intro e he;rw [hp.src] at he;obtain⟨s,_,rfl⟩:=List.mem_map.1 he;rfl
theorem CB (l:List mP): ∀e∈l.map bf,∀y∈e,y.Data:=by
 intro e he y hy;obtain⟨m,_,rfl⟩:=List.mem_map.1 he;simp [bf] at hy;rcases hy with rfl | rfl <;> simp
theorem M7 {l:List aA} (hl: ∀p∈l,p.Ok): ∀e∈l.map aj,∀y∈e,y.Data:=by
 intro e he y hy;obtain⟨p,hp,rfl⟩:=List.mem_map.1 he;have:=(hl p hp).dat;simp at hy;rcases hy with rfl | rfl | rfl | rfl | rfl | rfl | rfl | rfl
 ·simp
 ·simp
 ·simp
 ·simp
 ·simp
 ·simp
 ·simp
 ·exact .ro _ this
theorem OL (G:Nat→Nat→Bool)(n:Nat):(qW G n).Pairwise (· < ·)∧ ∀j∈qW G n,j<n:=⟨ol.1.asc.1,ol.2.1⟩
def splitV (v:bg)(l:List aA):AV:= .tup [.ro ((yF (qW (gL v l) l.length) l l.length).map aj),.ro ((mF (qW (gL v l) l.length) l l.length).map bf)]
set_option maxHeartbeats 8000000 in
theorem Gw (t:aZ)(l:List aA)(hok: ∀p∈l,p.Ok∧p.sources.length≤1000)(hn:l.length≤1000000)(hp:t.net.pts.length≤1000)(hl:t.net.lks.length≤1000)(hs:t.sys.length≤1000):aa Tryz.prog gl 75 [.agg (ay t),.ro (l.map aj)] h fun v h'=>v=splitV (aI t).net l∧h'=h:=by
 refine aa.fresh' (aa.body Tryz.f75 _ mixed Tryz.func75 rfl rfl (by simp [Tryz.ntmps75]) ?_);simp;refine ax.pure _ (fun _=>Cx t l hn hp hl hs) ?_;unfold splitV;obtain⟨hI1,hI2⟩:=OL (gL (aI t).net l) l.length;generalize qW (gL (aI t).net l) l.length=I at*;obtain⟨n,hnn⟩: ∃n,n=l.length:=⟨_,rfl⟩;simp [←hnn];refine aT.upF 9 mixed n (fun i fr H=>fr 14= .ro (l.map aj)∧fr 15= .int .i64 n∧fr 16= .int .i64 i∧fr 8= .ro ((kK I i).map bK)∧(∃g,H=h++g)∧h.length+1≤H.length∧ ∃x y,fr 6=x∧fr 7=y∧Ls 8 (h.length+1) H x ((yF I l i).map aj)∧Ls 2 (h.length+1) H y ((mF I l i).map bf)∧ ∀b off len b' off' len',x= .own b off len→y= .own b' off' len'→b≠b') 0 (by omega)
  ⟨by simp,by simp,by simp,by simp [BD],by simp,by simp,.nil,.nil,by simp,by simp,by simpa [yF] using Ls.nil,by simpa [mF] using Ls.nil,by simp⟩ ?_
 rintro i fr H hi ⟨e14,e15,e16,e8,hB,hHl,x,y,e6,e7,hx,hy,hxy⟩;have hxf:=hx.rs.fix;have hyf:=hy.rs.fix;have hxin:=hx.inside;have hyin:=hy.inside;have hxab:=hx.above;have hyab:=hy.above;have hlen:=cu hB;have hil1:=vP I l i;have hil2:=Bd I l i;rcases zN i n with hlt | hge
 ·obtain⟨p,hpp,hpp'⟩:=aN (l:=l) (i:=i) (by omega);have hil:i<l.length:=by omega
  have ew:=aC (i:=i) (by omega);obtain⟨hpo,hps⟩:=hok p (zF hpp);have hrs:=pJ (i:=i) hI1;have hs1:=G7 (I:=I) hpp;have hs2:=D7 (I:=I) hpp;obtain⟨q0,hq0⟩: ∃q0,q0=H.length:=⟨_,rfl⟩;by_cases c:i∈I
  ·rw [if_pos c] at hrs hs1 hs2;rw [hrs] at e8;simp [-ak,-av,-ai,-AV.solid,e6,e7,e8,e14,e15,e16,hlt,hil,hpp,hpp',hxf,hyf,bK,←hnn,←hq0];refine aO (lo:=q0+1) (n:=2) (es:=[]) (ys:=p.sources) (Ls.own (by simp [hq0]) (by omega) rfl (by simp)) (by simp;omega) (by simp [bF];exact Tt hpo) (by simp;omega) ?_;intro s1 H1 hs1' hg1 hn1;have hs1f:=hs1'.rs.fix;have hs1ab:=hs1'.above;have hk1: ∀b o,b<q0→H[b]? =some o→H1[b]? =some o:=fun b o hb ho=>hg1.keep b o (aL ho _) fun off len e=>by injection e with e;omega
   have hB1:=hg1.base h (by omega) (aF hB _);have hP1:H1[q0]? =some (.cells 8 [aj p]):=hg1.keep q0 _ (by simp [hq0]) fun off len e=>by injection e with e;omega
   have hP3:=at3 hP1;simp only [dm] at hP3;have hl1:=hg1.len;simp at hl1;have hx1:Ls 8 (h.length+1) H1 x ((yF I l i).map aj):=(hx.more _).grow hg1 fun b eb hbl off len e=>by have:=hxin _ _ _ eb;injection e with e;omega
   have hy1:Ls 2 (h.length+1) H1 y ((mF I l i).map bf):=(hy.more _).grow hg1 fun b eb hbl off len e=>by have:=hyin _ _ _ eb;injection e with e;omega
   have hq0h:h.length<q0:=by omega
   simp [-ak,-av,-ai,-AV.solid,e6,e7,e8,e14,e15,e16,hs1f,hxf,hyf,hP3];have hs1p:=hs1'.put (b:=q0) (o:= .cells 8 [[.str p.id,.str p.point,.int .i64 p.time,.str p.tag,.str p.plate,.int .i64 p.cls,.int .i64 p.score,s1]]) (by omega);refine aT.freezeF (lo:=q0+1) (n:=2) (es:=[]++p.sources) 34 q0 8 [.str p.id,.str p.point,.int .i64 p.time,.str p.tag,.str p.plate,.int .i64 p.cls,.int .i64 p.score] [] (by simp) hs1p.z (by simp [hP3]) (fun off len e=>by have:=hs1ab _ _ _ e;omega) ?_;intro fr2 H2 _ qf hP2 hk2 hb2 hl2;rw [List.length_set] at hl2;have f6:fr2 6=x:=by rw [qf 6 (by decide)];simp [e6]
   have f7:fr2 7=y:=by rw [qf 7 (by decide)];simp [e7]
   have f8:fr2 8= .ro ((i::kK I (i+1)).map bK):=by rw [qf 8 (by decide)];simp [e8]
   have f10:fr2 10= .ptr q0 0 0:=by rw [qf 10 (by decide)];simp
   have f14:fr2 14= .ro (l.map aj):=by rw [qf 14 (by decide)];simp [e14]
   have f15:fr2 15= .int .i64 n:=by rw [qf 15 (by decide)];simp [e15]
   have f16:fr2 16= .int .i64 i:=by rw [qf 16 (by decide)];simp [e16]
   have hB2:=hb2 h (by omega) (by omega) (dI hB1 (by omega) _);have hP3:=at3 hP2;have keep2: ∀b o,b<q0→H1[b]? =some o→H2[b]? =some o:=fun b o hb ho=>hk2 b o (by omega) (by rw [zJ (by omega)];exact ho) fun off len e=>by have:=hs1ab _ _ _ e;omega
   have hx2:Ls 8 (h.length+1) H2 x ((yF I l i).map aj):=hx1.keep' fun b len o e ho=>keep2 b o (by have:=hxin _ _ _ e;omega) ho;have hy2:Ls 2 (h.length+1) H2 y ((mF I l i).map bf):=hy1.keep' fun b len o e ho=>keep2 b o (by have:=hyin _ _ _ e;omega) ho;refine aT.of_awp mixed _ _ _ _ ?_;simp [-ak,-av,-ai,-AV.solid,f6,f7,f8,f10,f14,f15,f16,hxf,hyf,hP3];refine aO (lo:=h.length+1) (n:=8) (es:=(yF I l i).map aj) (ys:=[aj p]) (by simpa using hx2.more _) (by simp;omega) (by simp [bF]) (by simp;omega) ?_;intro s3 H3 hs3 hg3 hn3;have hs3f:=hs3.rs.fix;have hB3:=hg3.base h (by omega) (aF hB2 _);have hl3:=hg3.len;simp at hl3;have hy3:Ls 2 (h.length+1) H3 y ((mF I l i).map bf):=(hy2.more _).grow hg3 fun b eb hbl off len e=>hxy _ _ _ _ _ _ e eb rfl;have happ:s3.core=s3:=hs3f.1;simp [-ak,-av,-ai,-AV.solid,f6,f7,f8,f10,f14,f15,f16,hs3f,hyf,bK,ew];exact⟨by omega,i+1,by omega,by omega,by omega,zG (by simp),hB3,by omega,by rw [hs1];simpa using hs3,by rw [hs2];exact hy3,fun b off len b' off' len' e e'=>by have q1:=hn3 _ _ _ e;have q2:=hyin _ _ _ e';simp at q1;omega⟩
  ·rw [if_neg c] at hrs hs1 hs2;have hcell:(kK I i=[]∨ ∃j r,kK I i=j::r∧j≠i):=by
    rcases hr:kK I i with _ | ⟨j,r⟩
    ·exact .inl rfl
    ·exact .inr ⟨j,r,rfl,fun e=>c ((Ke hI1).1 ⟨r,by rw [hr,e]⟩)⟩
   have fin: ∀(K:AV→ae→Prop) (ts:List TypeId) (H0:ae) (z:AV),bF Tryz.prog H0 ts 2 z [bf ⟨p.id,9⟩]→Ls 2 (h.length+1) H0 y ((mF I l i).map bf)→Ls 8 (h.length+1) H0 x ((yF I l i).map aj)→(∃g,H0=h++g)→q0+1≤H0.length→
     (∀s3 H3,s3.core=s3∧s3.gd=true∧s3.solid=true∧ai s3=[s3]→(∃g,H3=h++g)→h.length+1≤H3.length→Ls 8 (h.length+1) H3 x ((yF I l (i+1)).map aj)→Ls 2 (h.length+1) H3 s3 ((mF I l (i+1)).map bf)→(∀b off len b' off' len',x= .own b off len→s3= .own b' off' len'→b≠b')→K s3 H3)→
     ak Tryz.prog H0 ts y z∧av 2 H0 y z K:=by
    intro K ts H0 z hok0 hy0 hx0 hB0 hl0 hK;refine aO (lo:=h.length+1) (n:=2) (es:=(mF I l i).map bf) (ys:=[bf ⟨p.id,9⟩]) hy0 (by omega) hok0 (by simp;omega) ?_;intro s3 H3 hs3 hg3 hn3;have hl3:=hg3.len;refine hK s3 H3 hs3.rs.fix (hg3.base h (by omega) hB0) (by omega) ?_ (by rw [hs2];simpa using hs3) fun b off len b' off' len' e e'=>by have:=hn3 _ _ _ e';have:=hxin _ _ _ e;omega
    rw [hs1];exact hx0.grow hg3 fun b eb hbl off len e=>hxy _ _ _ _ _ _ eb e rfl
   rcases hcell with hr | ⟨j,r,hr,hji⟩
   ·rw [hr] at e8 hrs;simp [-ak,-av,-ai,-AV.solid,e6,e7,e8,e14,e15,e16,hlt,hil,hpp,hpp',hxf,hyf,bK,←hnn,←hq0];refine fin _ _ _ _ ?_ (hy.more _) (hx.more _) (aF hB _) (by simp [hq0]) ?_
    ·simp [bF,bf,hq0]
    intro s3 H3 hs3f hB3 hl3 hx3 hy3 hxy3;simp [-ak,-av,-ai,-AV.solid,e6,e7,e8,e14,e15,e16,hs3f,hxf,ew];exact⟨i+1,by omega,by omega,by omega,by first | (rw [←hrs];done) | (rw [←hrs];rfl),hB3,by omega,hx3,hy3,hxy3⟩
   ·rw [hr] at e8 hrs;have hij': ¬(i:Int)=j:=by omega
    have hij'': ¬(j:Int)=i:=by omega
    have hij3: ¬i=j:=by omega
    simp [-ak,-av,-ai,-AV.solid,e6,e7,e8,e14,e15,e16,hlt,hil,hpp,hpp',hxf,hyf,bK,←hnn,←hq0,hij',hij'',hij3,hji];refine fin _ _ _ _ ?_ (hy.more _) (hx.more _) (aF hB _) (by simp [hq0]) ?_
    ·simp [bF,bf,hq0]
    intro s3 H3 hs3f hB3 hl3 hx3 hy3 hxy3;simp [-ak,-av,-ai,-AV.solid,e6,e7,e8,e14,e15,e16,hs3f,hxf,ew];exact⟨i+1,by omega,by omega,by omega,by first | (rw [←hrs];done) | (rw [←hrs];rfl),hB3,by omega,hx3,hy3,hxy3⟩
 ·obtain rfl:n=i:=by omega
  simp [e6,e7,e14,e15,e16,hxf,hyf];refine⟨hB,.tup' (.cons (hx.frz (by omega) (M7 fun p hp=>(hok p (Lg hp)).1)) (.cons (hy.frz (by omega) (CB _)) .nil))⟩
end Go.Proofs.YtkpioblbeiaefaaGreat
end
