/- Part 24 of the lemmas below the statements of this seat: ChainB, ChainC. -/
import Derived.Test.YtkpioblbeiaefaaGreatPb23
set_option linter.unusedSectionVars false
set_option linter.unusedVariables false
set_option linter.unusedSimpArgs false
set_option linter.unnecessarySimpa false
set_option maxRecDepth 100000
section
namespace Go.Proofs.YtkpioblbeiaefaaGreat
open Go Go.Abs Go.Toll
variable {gl : aR} {h : ak}
def kJ (G:Nat→Nat→Bool)(n i m:Nat):List Nat:=(List.range n).map fun j=>if j=i then m else if i<j then iB G n j else 0
section
variable {G : Nat → Nat → Bool} {n i m m' : Nat}
theorem oD:(kJ G n i m).length=n:=by simp [kJ]
theorem oC {j:Nat} (h:j<n):(kJ G n i m)[j]? =some (if j=i then m else if i<j then iB G n j else 0):=by simp [kJ,h]
theorem yc (h:i<n):(kJ G n i m).set i m'=kJ G n i m':=by
 refine List.ext_getElem? fun j=> ?_;by_cases hj:j=i
 ·subst hj;rw [zI (by rw [oD];exact h),oC h,if_pos rfl]
 ·rw [zJ (Ne.symm hj)];rcases zN j n with hl | hl
  ·rw [oC hl,oC hl,if_neg hj,if_neg hj]
  ·rw [List.getElem?_eq_none (by rw [oD];exact hl),List.getElem?_eq_none (by rw [oD];exact hl)]
def oz (G:Nat→Nat→Bool)(n c:Nat):List Nat:=(List.range n).map fun j=>if c≤j then iB G n j else 0
theorem uj:(oz G n i).length=n:=by simp [oz]
theorem GN:oz G n n=List.replicate n 0:=by
 refine List.ext_getElem? fun j=> ?_;rcases zN j n with hl | hl
 ·simp [oz,hl,List.getElem?_replicate];intro h;omega
 ·rw [List.getElem?_eq_none (by rw [uj];exact hl),List.getElem?_eq_none (by simpa using hl)]
theorem GM:oz G n (i+1)=kJ G n i 0:=by
 refine List.map_congr_left fun j hj=> ?_;by_cases h:j=i
 ·subst h;rw [if_neg (by omega),if_pos rfl]
 ·rw [if_neg h];by_cases h2:i<j
  ·rw [if_pos (by omega),if_pos h2]
  ·rw [if_neg (by omega),if_neg h2]
theorem CU:kJ G n i (iB G n i)=oz G n i:=by
 refine List.map_congr_left fun j hj=> ?_;by_cases h:j=i
 ·subst h;rw [if_pos rfl,if_pos (by omega)]
 ·rw [if_neg h];by_cases h2:i<j
  ·rw [if_pos h2,if_pos (by omega)]
  ·rw [if_neg h2,if_neg (by omega)]
theorem KC {j:Nat} (h:j<n):(oz G n 0)[j]? =some (iB G n j):=by simp [oz,h]
theorem DL {l:List Nat} {q j:Nat} (h:l[q]? =some j):ja i (iB G n) (l.take (q+1)) m=if i<j then max (ja i (iB G n) (l.take q) m) (iB G n j+1) else ja i (iB G n) (l.take q) m:=by
 rw [zM,h];unfold ja;rw [List.foldl_append];rfl
theorem uF {l:List Nat} (hl: ∀j∈l,j<n)(hm:m≤n+1):ja i (iB G n) l m≤n+1:=by
 rcases DK (i:=i) (S:=iB G n) (l:=l) (m:=m) with e | ⟨j,h1,h2,e⟩
 ·omega
 ·have:=vP (G:=G) (hl j h1);omega
end
theorem Kv (G:Nat→Nat→Bool)(k i:Nat):MZ G (some k) i=G k i:=by simp [MZ]
set_option maxHeartbeats 8000000 in
theorem FV (t:bn)(l:List aC)(hn:l.length≤1000000)(hp:t.net.pts.length≤1000)(hl:t.net.lks.length≤1000)(hs:t.sys.length≤1000):af Tryz.prog gl 106 [.agg (av t),.ro (l.map aj)] h fun v h'=>v= .ro ((oL (gL (aI t).net l) l.length).map bB)∧h'=h:=by
 refine af.fresh' (af.bodyF 9999 Tryz.f106 _ mixed Tryz.func106 rfl rfl (by simp [Tryz.ntmps106]) ?_);simp;refine ay.pure _ (fun _=>FU t l hn hp hl hs) ?_;obtain⟨n,hnn⟩: ∃n,n=l.length:=⟨_,rfl⟩;obtain⟨G,hG⟩: ∃G,G=gL (aI t).net l:=⟨_,rfl⟩;obtain⟨R,hR⟩: ∃R,R=iP (aI t).net l l.length:=⟨_,rfl⟩;have hRl:R.length=n:=by rw [hR,hnn];exact vX _ _ _
 have hRg: ∀i,i<n→R[i]? =some [AV.ro ((je G n i).map bB)]:=fun i hi=>by rw [hR,hG,hnn];exact Iz (by omega)
 rw [←hR,←hG,←hnn];clear hR hG;simp [←hnn];refine⟨by omega,?_⟩;obtain⟨p,hp0⟩: ∃p,p=h.length+1:=⟨_,rfl⟩;have ew0:IntKind.i64.wrap ((n:Int) - 1)=(n:Int) - 1:=aD (by omega) (by omega);rw [ew0,←hp0];refine aW.up mixed n (fun k fr H=>fr 1= .ro (l.map aj)∧fr 5= .ro R∧fr 6= .own p 0 n∧fr 8= .int .i64 ((n:Int) - 1 - k)∧fr 7= .int .i64 (lw G n (n - k):Nat)∧H[p]? =some (.cells 1 ((oz G n (n - k)).map bB))∧(∃g,H=h++g)∧p<H.length) 0 (by omega)
  ⟨by simp,by simp,by simp,by simp,by simp [yJ],?_,by simp,by simp [hp0]⟩ ?_
 ·rw [Nat.sub_zero,GN,List.map_replicate];simp [hp0,bB]
 rintro k fr H hk ⟨e1,e5,e6,e8,e7,hA,hB,hpl⟩;have hA3:=at3 hA;have hlen:=aV hB;rcases zN k n with hlt | hge
 ·obtain⟨i,hi⟩: ∃i,n - k=i+1:=⟨n - k - 1,by omega⟩;have hin:i<n:=by omega
  have ei:(n:Int) - 1 - k=(i:Int):=by omega
  rw [hi,GM] at hA hA3;rw [hi] at e7;rw [ei] at e8;have hrow:=hRg i hin;have hrow':=(zA.1 hrow).2;have hi0:(0:Int)≤i:=by omega
  have hal:(kJ G n i 0).length=n:=oD;have hset:((kJ G n i 0).map bB).set i [.int .i64 1]=(kJ G n i 1).map bB:=by rw [←yc hin (m:=0) (m':=1),List.map_set];rfl
  have hinR:i<R.length:=by omega
  simp [e1,e5,e6,e7,e8,hA3,hrow,hrow',hin,hi0,hal,hRl,hset];have hA1:(H.set p (.cells 1 ((kJ G n i 1).map bB)))[p]? =some (.cells 1 ((kJ G n i 1).map bB)):=zI hpl;refine aW.up mixed (je G n i).length (fun q fr H'=>fr 1= .ro (l.map aj)∧fr 5= .ro R∧fr 6= .own p 0 n∧fr 8= .int .i64 i∧fr 7= .int .i64 (lw G n (i+1):Nat)∧fr 35= .ro ((je G n i).map bB)∧fr 36= .int .i64 (je G n i).length∧fr 37= .int .i64 q∧
    H'[p]? =some (.cells 1 ((kJ G n i (ja i (iB G n) ((je G n i).take q) 1)).map bB))∧(∃g,H'=h++g)∧p<H'.length) 0 (by omega)
   ⟨by simp [e1],by simp [e5],by simp [e6],by simp [e8],by simp [e7],by simp,by simp,by simp,by simpa [ja] using hA1,cu hB (by omega) _,by simpa using hpl⟩ ?_
  clear hA hA3 hA1 e1 e5 e6 e7 e8 hB hpl;rintro q fr H' hq ⟨e1,e5,e6,e8,e7,e35,e36,e37,hA,hB,hpl⟩;have hA3:=at3 hA;have hmem: ∀j∈(je G n i).take q,j<n:=fun j hj=>(kW.1 (List.mem_of_mem_take hj)).1;have hfb:=uF (G:=G) (n:=n) (i:=i) hmem (m:=1) (by omega);obtain⟨m,hm⟩: ∃m,m=ja i (iB G n) ((je G n i).take q) 1:=⟨_,rfl⟩;have hal:(kJ G n i m).length=n:=oD;rcases zN q (je G n i).length with hqlt | hqge
  ·obtain⟨j,hj,hj'⟩:=aN hqlt;have hjn:=(kW.1 (zF hj)).1;have ewq:=aB (i:=q) (by have:=DI (G:=G) (n:=n) i;omega);have hsuc:=DL (G:=G) (n:=n) (i:=i) (m:=1) hj;rw [←hm] at hA hA3 hfb hsuc;have hgi:(kJ G n i m)[i]? =some m:=by rw [oC hin,if_pos rfl]
   have hgi':=(zA.1 hgi).2;by_cases hij:i<j
   ·have hij':(i:Int)<j:=by omega
    have hgj:(kJ G n i m)[j]? =some (iB G n j):=by rw [oC hjn,if_neg (by omega),if_pos hij]
    have hgj':=(zA.1 hgj).2;have hlj:=vP (G:=G) hjn;have ewl:IntKind.i64.wrap ((iB G n j:Int)+1)=((iB G n j+1:Nat):Int):=by rw [aD (by omega) (by omega)];omega
    have emax:max (m:Int) ((iB G n j+1:Nat):Int)=((max m (iB G n j+1):Nat):Int):=by omega
    have hset:((kJ G n i m).map bB).set i [.int .i64 ((max m (iB G n j+1):Nat):Int)]=(kJ G n i (max m (iB G n j+1))).map bB:=by rw [←yc hin (m:=m) (m':=max m (iB G n j+1)),List.map_set];rfl
    rw [if_pos hij] at hsuc;simp [-Int.natCast_add,e1,e5,e6,e7,e8,e35,e36,e37,hqlt,hj,hj',bB,hij,hij',hA3,hal,hin,hjn,hgi,hgi',hgj,hgj',ewl,ewq];refine⟨by decide,?_⟩;rw [emax,hset];exact⟨q+1,by omega,by omega,by omega,by rw [hsuc],cu hB (by omega) _⟩
   ·have hij': ¬(i:Int)<j:=by omega
    rw [if_neg hij] at hsuc;simp [-Int.natCast_add,e1,e5,e6,e7,e8,e35,e36,e37,hqlt,hj,hj',bB,hij,hij',ewq];exact⟨q+1,by omega,by omega,by omega,by rw [hsuc];exact hA,hB,hpl⟩
  ·obtain rfl:q=(je G n i).length:=by omega
   rw [List.take_length] at hm;rw [←xC hin] at hm;rw [List.take_length,←xC hin,CU] at hA;have hA3:=at3 hA;have hgi:(oz G n i)[i]? =some (iB G n i):=by simp [oz,hin]
   have hgi':=(zA.1 hgi).2;have hcl:(oz G n i).length=n:=uj;have hli:=vP (G:=G) hin;have emax:max (lw G n (i+1):Int) (iB G n i:Int)=((lw G n i:Nat):Int):=by rw [q9 hin];omega
   have ewi:IntKind.i64.wrap ((i:Int) - 1)=(i:Int) - 1:=aD (by omega) (by omega);simp [e1,e5,e6,e7,e8,e35,e36,e37,hA3,hcl,hin,hgi,hgi',bB,emax,ewi];exact⟨k+1,by omega,by omega,by omega,by rw [show n - (k+1)=i by omega],by rw [show n - (k+1)=i by omega],hB⟩
 ·obtain rfl:n=k:=by omega
  rw [Nat.sub_self] at hA e7;have hcl:(oz G n 0).length=n:=uj;have e8:fr 8= .int .i64 (-1):=by rw [e8];congr 1;omega
  simp [e1,e5,e6,e7,e8,←hnn];refine aW.up mixed n (fun k fr H=>fr 5= .ro R∧fr 6= .own p 0 n∧fr 65= .int .i64 n∧fr 66= .int .i64 k∧H[p]? =some (.cells 1 ((oz G n 0).map bB))∧(∃g,H=h++g)∧p<H.length∧
    ∃(m:Nat) (O:List Nat) (x:AV),fr 7= .int .i64 m∧m≤n∧fr 11=x∧Ls 1 (p+1) H x (O.map bB)∧(∀j∈O,j<n)∧O.length≤k∧oL G n=O++mE G n ((List.range n).drop k) O.getLast? m) 0 (by omega)
   ⟨by simp [e5],by simp [e6],by simp,by simp,hA,hB,hpl,lw G n 0,[],.nil,by simp [e7],Cr n 0 rfl (by omega),by simp,Ls.nil,by simp,by simp,by simp [oL]⟩ ?_
  clear hA hA3 hB hpl e1 e5 e6 e7 e8 hlen hk;rintro k fr H hk ⟨e5,e6,e65,e66,hA,hB,hpl,m,O,x,e7,hm,e11,hx,hO,hOl,hL⟩;have hA3:=at3 hA;have hlen:=aV hB;have hxf:=hx.rs.fix;rcases zN k n with hlt | hge
  ·have ewk:=aB (i:=k) (by omega);by_cases hm0:m=0
   ·subst hm0;rw [xL,List.append_nil] at hL;simp [e5,e6,e65,e66,e7,e11,hlt,hxf];exact⟨hB,by rw [hL];exact hx.frz (by omega) (Ad _)⟩
   ·rw [sK hlt,mE,if_neg hm0] at hL;have hgk:(oz G n 0)[k]? =some (iB G n k):=KC hlt;have hgk':=(zA.1 hgk).2;have hm0': ¬(m:Int)=0:=by omega
    have hm1:((m - 1:Nat):Int)=(m:Int) - 1:=by omega
    have ewm:IntKind.i64.wrap ((m:Int) - 1)=((m - 1:Nat):Int):=by rw [aD (by omega) (by omega)];omega
    by_cases hlk:iB G n k=m
    ·have hlk':(iB G n k:Int)=m:=by omega
     rcases List.eq_nil_or_concat O with rfl | ⟨O0,last,rfl⟩
     ·rw [if_pos ⟨hlk,rfl⟩] at hL;simp [-ae,-ai,-ah,-AV.solid,e5,e6,e65,e66,e7,e11,hlt,hxf,hm0,hm0',hA3,hcl,hgk,hgk',bB,hlk,hlk',hx.rs.len2];refine aG (lo:=p+1) (n:=1) (es:=[]) (ys:=[bB k]) (by simpa [bB] using hx.more _) (by simp;omega) (by simp [bu,bB]) (by simp) ?_;intro s1 H1 hs1 hg1 hn1;have hs1f:=hs1.rs.fix;have hk1: ∀b o,b<p+1→H[b]? =some o→H1[b]? =some o:=fun b o hb ho=>hg1.keep b o (aJ ho _) fun off len e=>by have:=hx.above _ _ _ e;omega
      have hB1:=hg1.base h (by omega) (aF hB _);have hl1:=hg1.len;simp [-ae,-ai,-ah,-AV.solid,e5,e6,e65,e66,e7,hs1f,ewm,ewk];simp at hl1;exact⟨k+1,by omega,by omega,by omega,hk1 _ _ (by omega) hA,hB1,by omega,m - 1,rfl,by omega,[k],by simpa [bB] using hs1,by simp [hlt],by simp,by simpa using hL⟩
     ·have hlast:last<n:=hO last (by simp);have hrow:=hRg last hlast;have hrow':=(zA.1 hrow).2;have hlR:last<R.length:=by omega
      have hOl':O0.length+1≤k:=by simpa using hOl
      have rx:=Rs.ix Tryz.prog hx.rs (O0.length:Nat) (by omega) (y:=[.int .i64 last]) (by simp [bB]);have ewo:IntKind.i64.wrap (O0.length:Int)=(O0.length:Int):=aD (by omega) (by omega);have hpos:(0:Int)<(O0.length:Int)+1:=by omega
      have hgl:(O0++[last]).getLast? =some last:=by simp
      simp only [List.concat_eq_append,hgl,Kv] at hL hx hO;simp [-ae,-ai,-ah,-AV.solid,e5,e6,e65,e66,e7,e11,hlt,hxf,hm0,hm0',hA3,hcl,hgk,hgk',bB,hlk,hlk',hx.rs.len2,rx,ewo,hpos,hrow,hrow',hlR];refine aW.up mixed (je G n last).length (fun q fr H=>fr 5= .ro R∧fr 6= .own p 0 n∧fr 65= .int .i64 n∧fr 66= .int .i64 k∧H[p]? =some (.cells 1 ((oz G n 0).map bB))∧(∃g,H=h++g)∧p<H.length∧
        fr 7= .int .i64 m∧fr 11=x∧Ls 1 (p+1) H x ((O0++[last]).map bB)∧fr 12= .int .i64 k∧fr 89= .ro ((je G n last).map bB)∧fr 90= .int .i64 (je G n last).length∧fr 91= .int .i64 q∧k∉(je G n last).take q) 0 (by omega)
       ⟨by simp [e5],by simp [e6],by simp [e65],by simp [e66],hA,hB,hpl,by simp [e7],by simp [e11],hx,by simp,by simp,by simp,by simp,by simp⟩ ?_
      clear e5 e6 e65 e66 e7 e11 hA hA3 hB hpl hx hxf rx hlen;rintro q fr H hq ⟨e5,e6,e65,e66,hA,hB,hpl,e7,e11,hx,e12,e89,e90,e91,hno⟩;have hlen:=aV hB;have hxf:=hx.rs.fix;rcases zN q (je G n last).length with hqlt | hqge
      ·obtain⟨j,hj,hj'⟩:=aN hqlt;have ewq:=aB (i:=q) (by have:=DI (G:=G) (n:=n) last;omega);by_cases hjk:j=k
       ·subst hjk;have hg:G last j=true:=(kW.1 (zF hj)).2;rw [if_pos ⟨hlk,hg⟩] at hL;simp [-ae,-ai,-ah,-AV.solid,e5,e6,e65,e66,e7,e11,e12,e89,e90,e91,hqlt,hj,hj',bB,hxf];refine aG (lo:=p+1) (n:=1) (es:=(O0++[last]).map bB) (ys:=[bB j]) (by simpa [bB] using hx.more _) (by simp;omega) (by simp [bu,bB]) (by simp;omega) ?_;intro s1 H1 hs1 hg1 hn1;have hs1f:=hs1.rs.fix;have hk1: ∀b o,b<p+1→H[b]? =some o→H1[b]? =some o:=fun b o hb ho=>hg1.keep b o (aJ ho _) fun off len e=>by have:=hx.above _ _ _ e;omega
        have hB1:=hg1.base h (by omega) (aF hB _);have hl1:=hg1.len;simp [-ae,-ai,-ah,-AV.solid,e5,e6,e65,e66,e7,hs1f,ewm,ewk];simp at hl1;exact⟨j+1,by omega,by omega,by omega,hk1 _ _ (by omega) hA,hB1,by omega,m - 1,rfl,by omega,O0++[last]++[j],by simpa [bB] using hs1,fun z hz=>by rcases List.mem_append.1 hz with q | q;exact hO z q;rw [List.mem_singleton.1 q];exact hlt,by simp;omega,by rw [hL,zK,zK];simp⟩
       ·have hjk': ¬(j:Int)=k:=by omega
        simp [e5,e6,e65,e66,e7,e11,e12,e89,e90,e91,hqlt,hj,hj',bB,hxf,hjk,hjk',ewq];refine⟨q+1,by omega,by omega,by omega,hB,hpl,by simpa [bB] using hx,by omega,fun hmem=> ?_⟩;rw [zM,hj] at hmem;rcases List.mem_append.1 hmem with c | c
        ·exact hno c
        ·exact hjk (by simp at c;exact c.symm)
      ·obtain rfl:q=(je G n last).length:=by omega
       rw [List.take_length] at hno;have hg: ¬G last k=true:=fun c=>hno (kW.2 ⟨hlt,c⟩);rw [if_neg (fun c=>hg c.2)] at hL;simp [e5,e6,e65,e66,e7,e11,e12,e89,e90,e91,hxf,ewk];exact⟨k+1,by omega,by omega,by omega,hA,hB,hpl,m,rfl,by omega,O0++[last],by simpa using hx,by simpa using hO,by simp;omega,by rw [hgl];exact hL⟩
    ·have hlk': ¬(iB G n k:Int)=m:=by omega
     rw [if_neg (fun c=>hlk c.1)] at hL;simp [e5,e6,e65,e66,e7,e11,hlt,hxf,hm0,hm0',hA3,hcl,hgk,hgk',bB,hlk,hlk',ewk];exact⟨k+1,by omega,by omega,by omega,hB,m,rfl,by omega,O,hx,hO,by omega,hL⟩
  ·obtain rfl:n=k:=by omega
   rw [zH (by simp),mE,List.append_nil] at hL;simp [e5,e6,e65,e66,e7,e11,hxf];exact⟨hB,by rw [hL];exact hx.frz (by omega) (Ad _)⟩
def Ba:Option Nat→Int
 | none=> -1
 | some k=>k
def Bd:Option Nat→Nat
 | none=>0
 | some k=>k+1
set_option maxHeartbeats 8000000 in
theorem Gq (t : bn) (l : List aC) (hn : l.length ≤ 1000000) (hp : t.net.pts.length ≤ 1000) (hl : t.net.lks.length ≤ 1000) (hs : t.sys.length ≤ 1000) : af Tryz.prog gl 113 [.agg (av t), .ro (l.map aj)] h fun v h' => v = .ro ((oL (gL (aI t).net l) l.length).map bB) ∧ h' = h := by
  refine af.fresh' (af.body Tryz.f113 _ mixed Tryz.func113 rfl rfl (by simp [Tryz.ntmps113]) ?_)
  simp
  refine ay.pure _ (fun _ => Gp t l hn hp hl hs) ?_
  obtain ⟨n, hnn⟩ : ∃ n, n = l.length := ⟨_, rfl⟩
  obtain ⟨G, hG⟩ : ∃ G, G = gL (aI t).net l := ⟨_, rfl⟩
  obtain ⟨R, hR⟩ : ∃ R, R = iP (aI t).net l l.length := ⟨_, rfl⟩
  have hRl : R.length = n := by rw [hR, hnn]; exact vX _ _ _
  have hRg : ∀ i, i < n → R[i]? = some [AV.ro ((je G n i).map bB)] := fun i hi => by rw [hR, hG, hnn]; exact Iz (by omega)
  rw [← hR, ← hG, ← hnn]
  clear hR
  simp [← hnn]
  refine ⟨by omega, ?_⟩
  obtain ⟨p, hp0⟩ : ∃ p, p = h.length + 1 := ⟨_, rfl⟩
  have ew0 : IntKind.i64.wrap ((n : Int) - 1) = (n : Int) - 1 := aD (by omega) (by omega)
  rw [ew0, ← hp0]
  refine aW.up mixed n (fun k fr H => fr 1 = .ro (l.map aj) ∧ fr 5 = .ro R ∧ fr 6 = .own p 0 n ∧ fr 8 = .int .i64 ((n : Int) - 1 - k) ∧ fr 7 = .int .i64 (lw G n (n - k) : Nat) ∧ H[p]? = some (.cells 1 ((oz G n (n - k)).map bB)) ∧ (∃ g, H = h ++ g) ∧ p < H.length ∧ fr 2 = .ptr h.length 0 0 ∧ H[h.length]? = some (.cells 3 [av t])) 0 (by omega)
    ⟨by simp, by simp, by simp, by simp, by simp [yJ], ?_, by simp, by simp [hp0], by simp, by simp⟩ ?_
  · rw [Nat.sub_zero, GN, List.map_replicate]
    simp [hp0, bB]
  rintro k fr H hk ⟨e1, e5, e6, e8, e7, hA, hB, hpl, e2, hT⟩
  have hA3 := at3 hA
  have hlen := aV hB
  rcases zN k n with hlt | hge
  · obtain ⟨i, hi⟩ : ∃ i, n - k = i + 1 := ⟨n - k - 1, by omega⟩
    have hin : i < n := by omega
    have ei : (n : Int) - 1 - k = (i : Int) := by omega
    rw [hi, GM] at hA hA3
    rw [hi] at e7
    rw [ei] at e8
    have hrow := hRg i hin
    have hrow' := (zA.1 hrow).2
    have hi0 : (0 : Int) ≤ i := by omega
    have hal : (kJ G n i 0).length = n := oD
    have hset : ((kJ G n i 0).map bB).set i [.int .i64 1] = (kJ G n i 1).map bB := by rw [← yc hin (m := 0) (m' := 1), List.map_set]; rfl
    have hinR : i < R.length := by omega
    simp [e1, e5, e6, e7, e8, hA3, hrow, hrow', hin, hi0, hal, hRl, hset]
    have hA1 : (H.set p (.cells 1 ((kJ G n i 1).map bB)))[p]? = some (.cells 1 ((kJ G n i 1).map bB)) := zI hpl
    refine aW.up mixed (je G n i).length (fun q fr H' => fr 1 = .ro (l.map aj) ∧ fr 5 = .ro R ∧ fr 6 = .own p 0 n ∧ fr 8 = .int .i64 i ∧ fr 7 = .int .i64 (lw G n (i + 1) : Nat) ∧ fr 9 = .int .i64 q ∧
        H'[p]? = some (.cells 1 ((kJ G n i (ja i (iB G n) ((je G n i).take q) 1)).map bB)) ∧ (∃ g, H' = h ++ g) ∧ p < H'.length ∧ fr 2 = .ptr h.length 0 0 ∧ H'[h.length]? = some (.cells 3 [av t])) 0 (by omega)
      ⟨by simp [e1], by simp [e5], by simp [e6], by simp [e8], by simp [e7], by simp, by simpa [ja] using hA1, cu hB (by omega) _, by simpa using hpl, by simp [e2], by rw [zJ (by omega)]; exact hT⟩ ?_
    clear hA hA3 hA1 e1 e5 e6 e7 e8 hB hpl e2 hT
    rintro q fr H' hq ⟨e1, e5, e6, e8, e7, e9, hA, hB, hpl, e2, hT⟩
    have hA3 := at3 hA
    have hmem : ∀ j ∈ (je G n i).take q, j < n := fun j hj => (kW.1 (List.mem_of_mem_take hj)).1
    have hfb := uF (G := G) (n := n) (i := i) hmem (m := 1) (by omega)
    obtain ⟨m, hm⟩ : ∃ m, m = ja i (iB G n) ((je G n i).take q) 1 := ⟨_, rfl⟩
    have hal : (kJ G n i m).length = n := oD
    rcases zN q (je G n i).length with hqlt | hqge
    · obtain ⟨j, hj, hj'⟩ := aN hqlt
      have hjn := (kW.1 (zF hj)).1
      have ewq := aB (i := q) (by have := DI (G := G) (n := n) i; omega)
      have hsuc := DL (G := G) (n := n) (i := i) (m := 1) hj
      rw [← hm] at hA hA3 hfb hsuc
      have hgi : (kJ G n i m)[i]? = some m := by rw [oC hin, if_pos rfl]
      have hgi' := (zA.1 hgi).2
      by_cases hij : i < j
      · have hij' : (i : Int) < j := by omega
        have hgj : (kJ G n i m)[j]? = some (iB G n j) := by rw [oC hjn, if_neg (by omega), if_pos hij]
        have hgj' := (zA.1 hgj).2
        have hlj := vP (G := G) hjn
        have ewl : IntKind.i64.wrap ((iB G n j : Int) + 1) = ((iB G n j + 1 : Nat) : Int) := by rw [aD (by omega) (by omega)]; omega
        have hset : ((kJ G n i m).map bB).set i [.int .i64 ((iB G n j + 1 : Nat) : Int)] = (kJ G n i (iB G n j + 1)).map bB := by rw [← yc hin (m := m) (m' := iB G n j + 1), List.map_set]; rfl
        rw [if_pos hij] at hsuc
        by_cases hmj : m ≤ iB G n j
        · have hmj' : (m : Int) ≤ iB G n j := by omega
          rw [show max m (iB G n j + 1) = iB G n j + 1 by omega] at hsuc
          simp [-Int.natCast_add, e1, e2, e5, e6, e7, e8, e9, hrow, hrow', hinR, hRl, hi0, hqlt, hj, hj', bB, hij, hij', hA3, hal, hin, hjn, hgi, hgi', hgj, hgj', ewl, ewq, hmj, hmj']
          refine ⟨by decide, ?_⟩
          simp only [hset]
          exact ⟨q + 1, by omega, by omega, by omega, by rw [hsuc], cu hB (by omega) _, by rw [zJ (by omega)]; exact hT⟩
        · have hmj' : ¬ (m : Int) ≤ iB G n j := by omega
          rw [show max m (iB G n j + 1) = m by omega] at hsuc
          simp [-Int.natCast_add, e1, e2, e5, e6, e7, e8, e9, hrow, hrow', hinR, hRl, hi0, hqlt, hj, hj', bB, hij, hij', hA3, hal, hin, hjn, hgi, hgi', hgj, hgj', ewl, ewq, hmj, hmj']
          exact ⟨by decide, q + 1, by omega, by omega, by omega, by rw [hsuc], hB, hT⟩
      · have hij' : ¬ (i : Int) < j := by omega
        rw [if_neg hij] at hsuc
        simp [-Int.natCast_add, e1, e2, e5, e6, e7, e8, e9, hrow, hrow', hinR, hRl, hi0, hqlt, hj, hj', bB, hij, hij', ewq, hA3, hal, hin, hjn, hgi, hgi']
        exact ⟨by decide, q + 1, by omega, by omega, by omega, by rw [hsuc], hB, hT⟩
    · obtain rfl : q = (je G n i).length := by omega
      rw [List.take_length] at hm
      rw [← xC hin] at hm
      rw [List.take_length, ← xC hin, CU] at hA
      have hA3 := at3 hA
      have hgi : (oz G n i)[i]? = some (iB G n i) := by simp [oz, hin]
      have hgi' := (zA.1 hgi).2
      have hcl : (oz G n i).length = n := uj
      have hli := vP (G := G) hin
      have hms := q9 (G := G) hin
      have ewi : IntKind.i64.wrap ((i : Int) - 1) = (i : Int) - 1 := aD (by omega) (by omega)
      by_cases hgt : lw G n (i + 1) < iB G n i
      · have hgt' : (lw G n (i + 1) : Int) < iB G n i := by omega
        rw [show max (iB G n i) (lw G n (i + 1)) = iB G n i by omega] at hms
        simp [e1, e2, e5, e6, e7, e8, e9, hrow, hrow', hinR, hRl, hi0, hA3, hcl, hin, hgi, hgi', bB, hgt, hgt', ewi]
        exact ⟨k + 1, by omega, by omega, by omega, by rw [show n - (k + 1) = i by omega, hms], by rw [show n - (k + 1) = i by omega], hB, hT⟩
      · have hgt' : ¬ (lw G n (i + 1) : Int) < iB G n i := by omega
        rw [show max (iB G n i) (lw G n (i + 1)) = lw G n (i + 1) by omega] at hms
        simp [e1, e2, e5, e6, e7, e8, e9, hrow, hrow', hinR, hRl, hi0, hA3, hcl, hin, hgi, hgi', bB, hgt, hgt', ewi]
        exact ⟨k + 1, by omega, by omega, by omega, by rw [show n - (k + 1) = i by omega, hms], by rw [show n - (k + 1) = i by omega], hB, hT⟩
  · obtain rfl : n = k := by omega
    rw [Nat.sub_self] at hA e7
    have hcl : (oz G n 0).length = n := uj
    have e8 : fr 8 = .int .i64 (-1) := by rw [e8]; congr 1; omega
    simp [e1, e5, e6, e7, e8, ← hnn]
    refine aW.down mixed (fun left fr H => fr 1 = .ro (l.map aj) ∧ fr 2 = .ptr h.length 0 0 ∧ fr 6 = .own p 0 n ∧ H[p]? = some (.cells 1 ((oz G n 0).map bB)) ∧ H[h.length]? = some (.cells 3 [av t]) ∧ (∃ g, H = h ++ g) ∧ p < H.length ∧ fr 13 = .int .i64 left ∧ left ≤ n ∧
        ∃ (O : List Nat) (x : AV), fr 12 = .int .i64 (Ba O.getLast?) ∧ fr 11 = x ∧ Ls 1 (p + 1) H x (O.map bB) ∧ (∀ j ∈ O, j < n) ∧ O.length + left ≤ n ∧ MW G n (Bd O.getLast?) O.getLast? left ∧ oL G n = O ++ mE G n ((List.range n).drop (Bd O.getLast?)) O.getLast? left) (lw G n 0)
      ⟨by simp [e1], by simp [e2], by simp [e6], hA, hT, hB, hpl, by simp [e7], Cr n 0 rfl (by omega), [], .nil, by simp [Ba], by simp, Ls.nil, by simp, by have := Cr (G := G) (n := n) n 0 rfl (by omega); simpa using this, MW.start, by simp [oL, Bd]⟩ ?_
    clear hA hA3 hB hpl e1 e5 e6 e7 e8 hlen hk e2 hT
    rintro left fr H ⟨e1, e2, e6, hA, hT, hB, hpl, e13, hleft, O, x, e12, e11, hx, hO, hOl, hE, hL⟩
    have hA3 := at3 hA
    have hlen := aV hB
    have hxf := hx.rs.fix
    by_cases hl0 : left = 0
    · subst hl0
      rw [xL, List.append_nil] at hL
      simp [e1, e6, e11, e12, e13, hxf]
      exact ⟨hB, by rw [hL]; exact hx.frz (by omega) (Ad _)⟩
    · have hl1 : 0 < left := by omega
      have hO' := hO
      obtain ⟨last, hlast⟩ : ∃ last, last = O.getLast? := ⟨_, rfl⟩
      rw [← hlast] at e12 hE hL
      have hln : ∀ k, last = some k → k < n := fun k e => hO k (List.mem_of_getLast? (by rw [← hlast]; exact e))
      have hcn : Bd last ≤ n := by
        cases last with
        | none => exact Nat.zero_le _
        | some k => have := hln k rfl; exact this
      have ewc : IntKind.i64.wrap (Ba last + 1) = (Bd last : Int) := by
        cases last with
        | none => rfl
        | some k => have := hln k rfl; show IntKind.i64.wrap ((k : Int) + 1) = ((k + 1 : Nat) : Int); exact aB (by omega)
      simp [e1, e2, e6, e11, e12, e13, hl1, hl0, hxf, ewc]
      refine aW.up mixed n (fun i fr H' => fr 1 = .ro (l.map aj) ∧ fr 2 = .ptr h.length 0 0 ∧ fr 6 = .own p 0 n ∧ fr 13 = .int .i64 left ∧ fr 12 = .int .i64 (Ba last) ∧ fr 11 = x ∧ fr 15 = .int .i64 i ∧ H' = H ∧ Bd last ≤ i ∧
          ((fr 14 = .int .i64 (-1) ∧ MW G n i last left ∧ oL G n = O ++ mE G n ((List.range n).drop i) last left) ∨
           ∃ k, i = k + 1 ∧ fr 14 = .int .i64 k ∧ iB G n k = left ∧ oL G n = O ++ k :: mE G n ((List.range n).drop (k + 1)) (some k) (left - 1))) (Bd last) hcn
        ⟨by simp [e1], by simp [e2], by simp [e6], by simp [e13], by simp [e12], by simp [e11], by simp, by simp, by omega, .inl ⟨by simp, hE, hL⟩⟩ ?_
      clear hE hL e1 e2 e6 e11 e12 e13
      rintro i fr H' hi ⟨e1, e2, e6, e13, e12, e11, e15, rfl, hci, hor⟩
      rcases hor with ⟨e14, hE, hL⟩ | ⟨k, rfl, e14, hlk, hL⟩
      · have hlt : i < n := by
          rcases hE with h0 | ⟨j, q1, q2, _⟩
          · exact absurd h0 hl0
          · omega
        have hil : i < l.length := by omega
        have ewi := aB (i := i) (by omega)
        have hgi : (oz G n 0)[i]? = some (iB G n i) := KC hlt
        have hgi' := (zA.1 hgi).2
        obtain ⟨b, hb, hb'⟩ := aN hil
        have hT3 := at3 hT
        simp only [av] at hT3
        rw [sK hlt, mE, if_neg hl0] at hL
        by_cases hlk : iB G n i = left
        · have hlk' : (iB G n i : Int) = left := by omega
          cases last with
          | none =>
            rw [if_pos ⟨hlk, rfl⟩] at hL
            simp [-Int.natCast_add, e1, e2, e6, e11, e12, e13, e14, e15, hlt, hil, hxf, hA3, hcl, hgi, hgi', bB, hlk, hlk', hT3, ← hnn, Ba]
            refine ⟨by decide, ?_⟩
            refine ay.pure (.int .i64 0) (fun c => by cases c) ?_
            simp [-Int.natCast_add, e1, e2, e6, e11, e12, e13, e14, e15, hxf, ewi, Ba]
            exact ⟨i + 1, by omega, by omega, by omega, by simp [Bd], i, rfl, rfl, hlk, hL⟩
          | some k =>
            have hkn := hln k rfl
            have hkl : k < l.length := by omega
            obtain ⟨a, ha, ha'⟩ := aN hkl
            have hk0 : ¬ (k : Int) < 0 := by omega
            have hfe : tJ (aI t).net a.point b.point a.time b.time = G k i := by rw [hG]; exact (Pk ha hb).symm
            simp [-Int.natCast_add, e1, e2, e6, e11, e12, e13, e14, e15, hlt, hil, hxf, hA3, hcl, hgi, hgi', bB, hlk, hlk', hT3, ← hnn, Ba, hk0, hkl, hkn, ha, ha', hb, hb']
            refine ⟨by decide, ?_⟩
            refine ay.pure _ (fun _ => vg t a b hp hl hs) ?_
            simp [-Int.natCast_add, e1, e2, e6, e11, e12, e13, e14, e15, hxf, ewi, hfe, Ba]
            refine ⟨fun c => ?_, fun c => ?_⟩
            · rw [if_pos ⟨hlk, by simpa [MZ] using c⟩] at hL
              exact ⟨i + 1, by omega, by omega, by omega, by omega, i, rfl, rfl, hlk, hL⟩
            · have hna : ¬ (iB G n i = left ∧ MZ G (some k) i = true) := fun q => by have := q.2; rw [Kv] at this; rw [c] at this; cases this
              rw [if_neg hna] at hL
              exact ⟨i + 1, by omega, by omega, by omega, by omega, hE.next hna hl0, hL⟩
        · have hlk' : ¬ (iB G n i : Int) = left := by omega
          have hna : ¬ (iB G n i = left ∧ MZ G last i = true) := fun q => hlk q.1
          rw [if_neg hna] at hL
          have hbq : ((iB G n i : Int) == (left : Int)) = false := beq_eq_false_iff_ne.2 hlk'
          simp [-Int.natCast_add, e1, e2, e6, e11, e12, e13, e14, e15, hlt, hil, hxf, hA3, hcl, hgi, hgi', bB, hlk, hlk', hT3, ← hnn, hbq]
          refine ⟨by decide, ?_⟩
          refine ay.pure (.int .i64 0) (fun c => by cases c) ?_
          simp [-Int.natCast_add, e1, e2, e6, e11, e12, e13, e14, e15, hxf, ewi, hbq, hlk, hlk']
          exact ⟨i + 1, by omega, by omega, by omega, by omega, hE.next hna hl0, hL⟩
      · have hkn : k < n := by omega
        have hk0 : ¬ (k : Int) < 0 := by omega
        have ewl : IntKind.i64.wrap ((left : Int) - 1) = ((left - 1 : Nat) : Int) := by rw [aD (by omega) (by omega)]; omega
        have hEx : MW G n (k + 1) (some k) (left - 1) := MW.pick hkn hlk
        have hgl : (O ++ [k]).getLast? = some k := by simp
        simp [-ae, -ai, -ah, -AV.solid, -Int.natCast_add, e1, e2, e6, e11, e12, e13, e14, e15, hxf, hk0, ← hnn]
        refine aG (lo := p + 1) (n := 1) (es := O.map bB) (ys := [bB k]) (by simpa [bB] using hx.more _) (by simp; omega) (by simp [bu, bB]) (by simp; omega) ?_
        intro s1 H1 hs1 hg1 hn1
        have hs1f := hs1.rs.fix
        have hk1 : ∀ b o, b < p + 1 → H'[b]? = some o → H1[b]? = some o := fun b o hb ho => hg1.keep b o (aJ ho _) fun off len e => by have := hx.above _ _ _ e; omega
        have hB1 := hg1.base h (by omega) (aF hB _)
        have hl1' := hg1.len
        simp [-ae, -ai, -ah, -AV.solid, -Int.natCast_add, e1, e2, e6, e12, e13, e14, e15, hs1f, ewl]
        simp at hl1'
        exact ⟨left - 1, by omega, hk1 _ _ (by omega) hA, hk1 _ _ (by omega) hT, hB1, by omega, rfl, by omega, O ++ [k], by rw [hgl]; rfl, by simpa [bB] using hs1, fun z hz => by rcases List.mem_append.1 hz with q | q; exact hO z q; rw [List.mem_singleton.1 q]; exact hkn, by simp; omega, by rw [hgl]; exact hEx, by rw [hgl, hL, zK]; rfl⟩
end Go.Proofs.YtkpioblbeiaefaaGreat
end
section
namespace Go.Proofs.YtkpioblbeiaefaaGreat
open Go Go.Abs Go.Toll
variable {gl : aR} {h : ak}
theorem Uf {p:aC} (hp:p.Ok): ∀e∈p.sources,e.length=2:=by
 intro e he;rw [hp.src] at he;obtain⟨s,_,rfl⟩:=List.mem_map.1 he;rfl
theorem JY (p:aC)(hp:p.Ok)(hn:p.sources.length≤1000):af Tryz.prog gl 114 [.agg (aj p)] h fun v h'=>v= .agg (aj p)∧h'=h:=by
 refine af.fresh' (af.body Tryz.f114 _ mixed Tryz.func114 rfl rfl (by simp [Tryz.ntmps114]) ?_);simp [-ae,-ai,-ah,-AV.solid];refine aG (lo:=h.length+3) (n:=2) (es:=[]) (ys:=p.sources) Ls.nil (by simp) (by simp [bu];exact Uf hp) (by simp;omega) ?_;intro s1 H1 hs1 hg1 hn1;have hs1f:=hs1.rs.fix;have hB1:=hg1.base h (by omega) ⟨_,rfl⟩;have hk1:H1[h.length+2]? =some (.cells 8 [[.str p.id,.str p.point,.int .i64 p.time,.str p.tag,.str p.plate,.int .i64 p.cls,.int .i64 p.score,.nil]]):=hg1.keep (h.length+2) _ (by simp) (by simp);have hk2:H1[h.length+1]? =some (.cells 8 [[.str [],.str [],.int .i64 0,.str [],.str [],.int .i64 0,.int .i64 0,.nil]]):=hg1.keep (h.length+1) _ (by simp) (by simp);have k1:=at3 hk1;have k2:=at3 hk2;have hne: ∀b off len,s1= .own b off len→h.length+3≤b:=hs1.above;have hd: ∀e∈p.sources,∀y∈e,y.Data:=hp.dat;simp [-ae,-ai,-ah,-AV.solid,hs1f,k1,k2];have hs2:=(hs1.put (b:=h.length+2) (o:= .cells 8 [[.str p.id,.str p.point,.int .i64 p.time,.str p.tag,.str p.plate,.int .i64 p.cls,.int .i64 p.score,s1]]) (by omega)).put (b:=h.length+1) (o:= .cells 8 [[.str p.id,.str p.point,.int .i64 p.time,.str p.tag,.str p.plate,.int .i64 p.cls,.int .i64 p.score,s1]]) (by omega);refine⟨cu (cu hB1 (by omega) _) (by omega) _,.agg' (.cons (.data _ (by simp)) (.cons (.data _ (by simp)) (.cons (.data _ (by simp)) (.cons (.data _ (by simp)) (.cons (.data _ (by simp)) (.cons (.data _ (by simp)) (.cons (.data _ (by simp)) (.cons ?_ .nil))))))))⟩;exact hs2.frz (by omega) (by simpa using hd)
theorem wL (l:List fI): ∀e∈l.map aM,∀y∈e,y.Data:=by
 intro e he y hy;obtain⟨m,_,rfl⟩:=List.mem_map.1 he;simp [aM] at hy;rcases hy with rfl | rfl <;> simp
theorem Ih {l:List aC} (hl: ∀p∈l,p.Ok): ∀e∈l.map aj,∀y∈e,y.Data:=by
 intro e he y hy;obtain⟨p,hp,rfl⟩:=List.mem_map.1 he;have:=(hl p hp).dat;simp at hy;rcases hy with rfl | rfl | rfl | rfl | rfl | rfl | rfl | rfl
 ·simp
 ·simp
 ·simp
 ·simp
 ·simp
 ·simp
 ·simp
 ·exact .ro _ this
theorem Lp (G:Nat→Nat→Bool)(n:Nat):(oL G n).Pairwise (· < ·)∧ ∀j∈oL G n,j<n:=⟨qZ.1.asc.1,qZ.2.1⟩
def splitV (v:bv)(l:List aC):AV:= .tup [.ro ((uK (oL (gL v l) l.length) l l.length).map aj),.ro ((kZ (oL (gL v l) l.length) l l.length).map aM)]
set_option maxHeartbeats 8000000 in
theorem KH (t:bn)(l:List aC)(hok: ∀p∈l,p.Ok∧p.sources.length≤1000)(hn:l.length≤1000000)(hp:t.net.pts.length≤1000)(hl:t.net.lks.length≤1000)(hs:t.sys.length≤1000):af Tryz.prog gl 75 [.agg (av t),.ro (l.map aj)] h fun v h'=>v=splitV (aI t).net l∧h'=h:=by
 refine af.fresh' (af.body Tryz.f75 _ mixed Tryz.func75 rfl rfl (by simp [Tryz.ntmps75]) ?_);simp;refine ay.pure _ (fun _=>FV t l hn hp hl hs) ?_;unfold splitV;obtain⟨hI1,hI2⟩:=Lp (gL (aI t).net l) l.length;generalize oL (gL (aI t).net l) l.length=I at*;obtain⟨n,hnn⟩: ∃n,n=l.length:=⟨_,rfl⟩;simp [←hnn];refine aW.upF 9 mixed n (fun i fr H=>fr 14= .ro (l.map aj)∧fr 15= .int .i64 n∧fr 16= .int .i64 i∧fr 8= .ro ((jH I i).map bB)∧(∃g,H=h++g)∧h.length+1≤H.length∧ ∃x y,fr 6=x∧fr 7=y∧Ls 8 (h.length+1) H x ((uK I l i).map aj)∧Ls 2 (h.length+1) H y ((kZ I l i).map aM)∧ ∀b off len b' off' len',x= .own b off len→y= .own b' off' len'→b≠b') 0 (by omega)
  ⟨by simp,by simp,by simp,by simp [oP],by simp,by simp,.nil,.nil,by simp,by simp,by simpa [uK] using Ls.nil,by simpa [kZ] using Ls.nil,by simp⟩ ?_
 rintro i fr H hi ⟨e14,e15,e16,e8,hB,hHl,x,y,e6,e7,hx,hy,hxy⟩;have hxf:=hx.rs.fix;have hyf:=hy.rs.fix;have hxin:=hx.inside;have hyin:=hy.inside;have hxab:=hx.above;have hyab:=hy.above;have hlen:=aV hB;have hil1:=rW I l i;have hil2:=uV I l i;rcases zN i n with hlt | hge
 ·obtain⟨p,hpp,hpp'⟩:=aN (l:=l) (i:=i) (by omega);have hil:i<l.length:=by omega
  have ew:=aB (i:=i) (by omega);obtain⟨hpo,hps⟩:=hok p (zF hpp);have hrs:=kD (i:=i) hI1;have hs1:=yC (I:=I) hpp;have hs2:=Ae (I:=I) hpp;obtain⟨q0,hq0⟩: ∃q0,q0=H.length:=⟨_,rfl⟩;by_cases c:i∈I
  ·rw [if_pos c] at hrs hs1 hs2;rw [hrs] at e8;simp [-ae,-ai,-ah,-AV.solid,e6,e7,e8,e14,e15,e16,hlt,hil,hpp,hpp',hxf,hyf,bB,←hnn,←hq0];refine aG (lo:=q0+1) (n:=2) (es:=[]) (ys:=p.sources) (Ls.own (by simp [hq0]) (by omega) rfl (by simp)) (by simp;omega) (by simp [bu];exact Uf hpo) (by simp;omega) ?_;intro s1 H1 hs1' hg1 hn1;have hs1f:=hs1'.rs.fix;have hs1ab:=hs1'.above;have hk1: ∀b o,b<q0→H[b]? =some o→H1[b]? =some o:=fun b o hb ho=>hg1.keep b o (aJ ho _) fun off len e=>by injection e with e;omega
   have hB1:=hg1.base h (by omega) (aF hB _);have hP1:H1[q0]? =some (.cells 8 [aj p]):=hg1.keep q0 _ (by simp [hq0]) fun off len e=>by injection e with e;omega
   have hP3:=at3 hP1;simp only [dK] at hP3;have hl1:=hg1.len;simp at hl1;have hx1:Ls 8 (h.length+1) H1 x ((uK I l i).map aj):=(hx.more _).grow hg1 fun b eb hbl off len e=>by have:=hxin _ _ _ eb;injection e with e;omega
   have hy1:Ls 2 (h.length+1) H1 y ((kZ I l i).map aM):=(hy.more _).grow hg1 fun b eb hbl off len e=>by have:=hyin _ _ _ eb;injection e with e;omega
   have hq0h:h.length<q0:=by omega
   simp [-ae,-ai,-ah,-AV.solid,e6,e7,e8,e14,e15,e16,hs1f,hxf,hyf,hP3];have hs1p:=hs1'.put (b:=q0) (o:= .cells 8 [[.str p.id,.str p.point,.int .i64 p.time,.str p.tag,.str p.plate,.int .i64 p.cls,.int .i64 p.score,s1]]) (by omega);refine aW.freezeF (lo:=q0+1) (n:=2) (es:=[]++p.sources) 34 q0 8 [.str p.id,.str p.point,.int .i64 p.time,.str p.tag,.str p.plate,.int .i64 p.cls,.int .i64 p.score] [] (by simp) hs1p.z (by simp [hP3]) (fun off len e=>by have:=hs1ab _ _ _ e;omega) ?_;intro fr2 H2 _ qf hP2 hk2 hb2 hl2;rw [List.length_set] at hl2;have f6:fr2 6=x:=by rw [qf 6 (by decide)];simp [e6]
   have f7:fr2 7=y:=by rw [qf 7 (by decide)];simp [e7]
   have f8:fr2 8= .ro ((i::jH I (i+1)).map bB):=by rw [qf 8 (by decide)];simp [e8]
   have f10:fr2 10= .ptr q0 0 0:=by rw [qf 10 (by decide)];simp
   have f14:fr2 14= .ro (l.map aj):=by rw [qf 14 (by decide)];simp [e14]
   have f15:fr2 15= .int .i64 n:=by rw [qf 15 (by decide)];simp [e15]
   have f16:fr2 16= .int .i64 i:=by rw [qf 16 (by decide)];simp [e16]
   have hB2:=hb2 h (by omega) (by omega) (cu hB1 (by omega) _);have hP3:=at3 hP2;have keep2: ∀b o,b<q0→H1[b]? =some o→H2[b]? =some o:=fun b o hb ho=>hk2 b o (by omega) (by rw [zJ (by omega)];exact ho) fun off len e=>by have:=hs1ab _ _ _ e;omega
   have hx2:Ls 8 (h.length+1) H2 x ((uK I l i).map aj):=hx1.keep' fun b len o e ho=>keep2 b o (by have:=hxin _ _ _ e;omega) ho;have hy2:Ls 2 (h.length+1) H2 y ((kZ I l i).map aM):=hy1.keep' fun b len o e ho=>keep2 b o (by have:=hyin _ _ _ e;omega) ho;refine aW.of_awp mixed _ _ _ _ ?_;simp [-ae,-ai,-ah,-AV.solid,f6,f7,f8,f10,f14,f15,f16,hxf,hyf,hP3];refine aG (lo:=h.length+1) (n:=8) (es:=(uK I l i).map aj) (ys:=[aj p]) (by simpa using hx2.more _) (by simp;omega) (by simp [bu]) (by simp;omega) ?_;intro s3 H3 hs3 hg3 hn3;have hs3f:=hs3.rs.fix;have hB3:=hg3.base h (by omega) (aF hB2 _);have hl3:=hg3.len;simp at hl3;have hy3:Ls 2 (h.length+1) H3 y ((kZ I l i).map aM):=(hy2.more _).grow hg3 fun b eb hbl off len e=>hxy _ _ _ _ _ _ e eb rfl;have happ:s3.core=s3:=hs3f.1;simp [-ae,-ai,-ah,-AV.solid,f6,f7,f8,f10,f14,f15,f16,hs3f,hyf,bB,ew];exact⟨by omega,i+1,by omega,by omega,by omega,zG (by simp),hB3,by omega,by rw [hs1];simpa using hs3,by rw [hs2];exact hy3,fun b off len b' off' len' e e'=>by have q1:=hn3 _ _ _ e;have q2:=hyin _ _ _ e';simp at q1;omega⟩
  ·rw [if_neg c] at hrs hs1 hs2;have hcell:(jH I i=[]∨ ∃j r,jH I i=j::r∧j≠i):=by
    rcases hr:jH I i with _ | ⟨j,r⟩
    ·exact .inl rfl
    ·exact .inr ⟨j,r,rfl,fun e=>c ((EO hI1).1 ⟨r,by rw [hr,e]⟩)⟩
   have fin: ∀(K:AV→ak→Prop) (ts:List TypeId) (H0:ak) (z:AV),bu Tryz.prog H0 ts 2 z [aM ⟨p.id,9⟩]→Ls 2 (h.length+1) H0 y ((kZ I l i).map aM)→Ls 8 (h.length+1) H0 x ((uK I l i).map aj)→(∃g,H0=h++g)→q0+1≤H0.length→
     (∀s3 H3,s3.core=s3∧s3.gd=true∧s3.solid=true∧ah s3=[s3]→(∃g,H3=h++g)→h.length+1≤H3.length→Ls 8 (h.length+1) H3 x ((uK I l (i+1)).map aj)→Ls 2 (h.length+1) H3 s3 ((kZ I l (i+1)).map aM)→(∀b off len b' off' len',x= .own b off len→s3= .own b' off' len'→b≠b')→K s3 H3)→
     ae Tryz.prog H0 ts y z∧ai 2 H0 y z K:=by
    intro K ts H0 z hok0 hy0 hx0 hB0 hl0 hK;refine aG (lo:=h.length+1) (n:=2) (es:=(kZ I l i).map aM) (ys:=[aM ⟨p.id,9⟩]) hy0 (by omega) hok0 (by simp;omega) ?_;intro s3 H3 hs3 hg3 hn3;have hl3:=hg3.len;refine hK s3 H3 hs3.rs.fix (hg3.base h (by omega) hB0) (by omega) ?_ (by rw [hs2];simpa using hs3) fun b off len b' off' len' e e'=>by have:=hn3 _ _ _ e';have:=hxin _ _ _ e;omega
    rw [hs1];exact hx0.grow hg3 fun b eb hbl off len e=>hxy _ _ _ _ _ _ eb e rfl
   rcases hcell with hr | ⟨j,r,hr,hji⟩
   ·rw [hr] at e8 hrs;simp [-ae,-ai,-ah,-AV.solid,e6,e7,e8,e14,e15,e16,hlt,hil,hpp,hpp',hxf,hyf,bB,←hnn,←hq0];refine fin _ _ _ _ ?_ (hy.more _) (hx.more _) (aF hB _) (by simp [hq0]) ?_
    ·simp [bu,aM,hq0]
    intro s3 H3 hs3f hB3 hl3 hx3 hy3 hxy3;simp [-ae,-ai,-ah,-AV.solid,e6,e7,e8,e14,e15,e16,hs3f,hxf,ew];exact⟨i+1,by omega,by omega,by omega,by first | (rw [←hrs];done) | (rw [←hrs];rfl),hB3,by omega,hx3,hy3,hxy3⟩
   ·rw [hr] at e8 hrs;have hij': ¬(i:Int)=j:=by omega
    have hij'': ¬(j:Int)=i:=by omega
    have hij3: ¬i=j:=by omega
    simp [-ae,-ai,-ah,-AV.solid,e6,e7,e8,e14,e15,e16,hlt,hil,hpp,hpp',hxf,hyf,bB,←hnn,←hq0,hij',hij'',hij3,hji];refine fin _ _ _ _ ?_ (hy.more _) (hx.more _) (aF hB _) (by simp [hq0]) ?_
    ·simp [bu,aM,hq0]
    intro s3 H3 hs3f hB3 hl3 hx3 hy3 hxy3;simp [-ae,-ai,-ah,-AV.solid,e6,e7,e8,e14,e15,e16,hs3f,hxf,ew];exact⟨i+1,by omega,by omega,by omega,by first | (rw [←hrs];done) | (rw [←hrs];rfl),hB3,by omega,hx3,hy3,hxy3⟩
 ·obtain rfl:n=i:=by omega
  simp [e6,e7,e14,e15,e16,hxf,hyf];refine⟨hB,.tup' (.cons (hx.frz (by omega) (Ih fun p hp=>(hok p (Jt hp)).1)) (.cons (hy.frz (by omega) (wL _)) .nil))⟩
set_option maxHeartbeats 8000000 in
theorem Me (t:bn)(l:List aC)(hok: ∀p∈l,p.Ok∧p.sources.length≤1000)(hn:l.length≤1000000)(hp:t.net.pts.length≤1000)(hl:t.net.lks.length≤1000)(hs:t.sys.length≤1000):af Tryz.prog gl 79 [.agg (av t),.ro (l.map aj)] h fun v h'=>v=splitV (aI t).net l∧h'=h:=by
 refine af.fresh' (af.body Tryz.f79 _ mixed Tryz.func79 rfl rfl (by simp [Tryz.ntmps79]) ?_);simp;refine ay.pure _ (fun _=>Gq t l hn hp hl hs) ?_;unfold splitV;obtain⟨hI1,hI2⟩:=Lp (gL (aI t).net l) l.length;generalize oL (gL (aI t).net l) l.length=I at*;obtain⟨n,hnn⟩: ∃n,n=l.length:=⟨_,rfl⟩;simp [←hnn];refine aW.up mixed n (fun i fr H=>fr 1= .ro (l.map aj)∧fr 6= .ro (I.map bB)∧fr 9= .int .i64 i∧(∃g,H=h++g)∧h.length+1≤H.length∧ ∃x y,fr 7=x∧fr 8=y∧Ls 8 (h.length+1) H x ((uK I l i).map aj)∧Ls 2 (h.length+1) H y ((kZ I l i).map aM)∧ ∀b off len b' off' len',x= .own b off len→y= .own b' off' len'→b≠b') 0 (by omega)
  ⟨by simp,by simp,by simp,by simp,by simp,.nil,.nil,by simp,by simp,by simpa [uK] using Ls.nil,by simpa [kZ] using Ls.nil,by simp⟩ ?_
 rintro i fr H hi ⟨e1,e6,e9,hB,hHl,x,y,e7,e8,hx,hy,hxy⟩;have hxf:=hx.rs.fix;have hyf:=hy.rs.fix;have hxin:=hx.inside;have hyin:=hy.inside;have hlen:=aV hB;have hil1:=rW I l i;have hil2:=uV I l i;rcases zN i n with hlt | hge
 ·obtain⟨p,hpp,hpp'⟩:=aN (l:=l) (i:=i) (by omega);have hil:i<l.length:=by omega
  have ew:=aB (i:=i) (by omega);obtain⟨hpo,hps⟩:=hok p (zF hpp);have hrs:=kD (i:=i) hI1;have hs1:=yC (I:=I) hpp;have hs2:=Ae (I:=I) hpp;have hat:=R6 hI1 hI2 (i:=i) (by omega);by_cases c:i∈I
  ·rw [if_pos c] at hrs hs1 hs2;rw [hrs,List.getElem?_cons_zero] at hat;have hkl:=(zA.1 hat).1;have hat':=(zA.1 hat).2;simp [-ae,-ai,-ah,-AV.solid,e1,e6,e7,e8,e9,hlt,hil,hpp,hpp',hxf,hyf,bB,←hnn,hx.rs.len2,hkl,hat,hat'];refine ay.pure _ (fun _=>JY p hpo hps) ?_;simp [-ae,-ai,-ah,-AV.solid,e1,e6,e7,e8,e9,hxf,hyf];refine aG (lo:=h.length+1) (n:=8) (es:=(uK I l i).map aj) (ys:=[aj p]) (by simpa using hx.more _) (by simp;omega) (by simp [bu]) (by simp;omega) ?_;intro s3 H3 hs3 hg3 hn3;have hs3f:=hs3.rs.fix;have hB3:=hg3.base h (by omega) (aF hB _);have hl3:=hg3.len;simp at hl3;have hy3:Ls 2 (h.length+1) H3 y ((kZ I l i).map aM):=(hy.more _).grow hg3 fun b eb hbl off len e=>hxy _ _ _ _ _ _ e eb rfl;simp [-ae,-ai,-ah,-AV.solid,e1,e6,e7,e8,e9,hs3f,hyf,ew];exact⟨i+1,by omega,by omega,by omega,hB3,by omega,by rw [hs1];simpa using hs3,by rw [hs2];exact hy3,fun b off len b' off' len' e e'=>by have q1:=hn3 _ _ _ e;have q2:=hyin _ _ _ e';simp at q1;omega⟩
  ·rw [if_neg c] at hrs hs1 hs2;have fin: ∀(K:AV→ak→Prop) (ts:List TypeId) (H0:ak) (z:AV),bu Tryz.prog H0 ts 2 z [aM ⟨p.id,9⟩]→Ls 2 (h.length+1) H0 y ((kZ I l i).map aM)→Ls 8 (h.length+1) H0 x ((uK I l i).map aj)→(∃g,H0=h++g)→H.length≤H0.length→
     (∀s3 H3,s3.core=s3∧s3.gd=true∧s3.solid=true∧ah s3=[s3]→(∃g,H3=h++g)→h.length+1≤H3.length→Ls 8 (h.length+1) H3 x ((uK I l (i+1)).map aj)→Ls 2 (h.length+1) H3 s3 ((kZ I l (i+1)).map aM)→(∀b off len b' off' len',x= .own b off len→s3= .own b' off' len'→b≠b')→K s3 H3)→
     ae Tryz.prog H0 ts y z∧ai 2 H0 y z K:=by
    intro K ts H0 z hok0 hy0 hx0 hB0 hl0 hK;refine aG (lo:=h.length+1) (n:=2) (es:=(kZ I l i).map aM) (ys:=[aM ⟨p.id,9⟩]) hy0 (by omega) hok0 (by simp;omega) ?_;intro s3 H3 hs3 hg3 hn3;have hl3:=hg3.len;refine hK s3 H3 hs3.rs.fix (hg3.base h (by omega) hB0) (by omega) ?_ (by rw [hs2];simpa using hs3) fun b off len b' off' len' e e'=>by have:=hn3 _ _ _ e';have:=hxin _ _ _ e;omega
    rw [hs1];exact hx0.grow hg3 fun b eb hbl off len e=>hxy _ _ _ _ _ _ eb e rfl
   rcases hr:jH I i with _ | ⟨j,r⟩
   ·rw [hr] at hat;have hkl: ¬(uK I l i).length<I.length:=fun q=>by rw [zB q] at hat;simp at hat
    simp [-ae,-ai,-ah,-AV.solid,e1,e6,e7,e8,e9,hlt,hil,hpp,hpp',hxf,hyf,bB,←hnn,hx.rs.len2,hkl];refine fin _ _ _ _ ?_ (hy.more _) (hx.more _) (aF hB _) (by simp) ?_
    ·simp [bu,aM]
    intro s3 H3 hs3f hB3 hl3 hx3 hy3 hxy3;simp [-ae,-ai,-ah,-AV.solid,e1,e6,e7,e8,e9,hs3f,hxf,ew];exact⟨i+1,by omega,by omega,by omega,hB3,by omega,hx3,hy3,hxy3⟩
   ·have hji:j≠i:=fun e=>c ((EO hI1).1 ⟨r,by rw [hr,e]⟩);have hij': ¬(i:Int)=j:=by omega
    have hij'': ¬(j:Int)=i:=by omega
    have hij3: ¬i=j:=by omega
    rw [hr,List.getElem?_cons_zero] at hat;have hkl:=(zA.1 hat).1;have hat':=(zA.1 hat).2;simp [-ae,-ai,-ah,-AV.solid,e1,e6,e7,e8,e9,hlt,hil,hpp,hpp',hxf,hyf,bB,←hnn,hx.rs.len2,hkl,hat,hat',hij',hij'',hij3,hji];refine fin _ _ _ _ ?_ (hy.more _) (hx.more _) (aF hB _) (by simp) ?_
    ·simp [bu,aM]
    intro s3 H3 hs3f hB3 hl3 hx3 hy3 hxy3;simp [-ae,-ai,-ah,-AV.solid,e1,e6,e7,e8,e9,hs3f,hxf,ew];exact⟨i+1,by omega,by omega,by omega,hB3,by omega,hx3,hy3,hxy3⟩
 ·obtain rfl:n=i:=by omega
  simp [e1,e6,e7,e8,e9,hxf,hyf,←hnn];refine⟨hB,.tup' (.cons (hx.frz (by omega) (Ih fun p hp=>(hok p (Jt hp)).1)) (.cons (hy.frz (by omega) (wL _)) .nil))⟩
end Go.Proofs.YtkpioblbeiaefaaGreat
end
