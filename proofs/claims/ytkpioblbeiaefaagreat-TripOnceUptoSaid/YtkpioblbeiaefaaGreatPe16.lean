/- Part 16 of the lemmas below the statements of this seat: PassB, TripE, TripF. -/
import Derived.Test.YtkpioblbeiaefaaGreatPe15
set_option linter.unusedSectionVars false
set_option linter.unusedVariables false
set_option linter.unusedSimpArgs false
set_option linter.unnecessarySimpa false
set_option maxRecDepth 100000
namespace Go.Proofs.YtkpioblbeiaefaaGreat
open Go Go.Abs Go.Toll
variable {gl : aM} {h : ae}
def encS' (s:Bytes):AV:= .str s
theorem Hm {m:List (Bytes×Bytes)} (s:Bytes):aW Tryz.prog 9 (.str s) (sM encS' m):=by
 refine⟨by simp [dA],[.str],by simp,by simp,fun p hp=> ?_⟩;obtain⟨q,_,rfl⟩:=xh _ hp;simp
theorem Hg {m:List (Bytes×Bool)} (s:Bytes):aW Tryz.prog 9 (.str s) (sM AV.bool m):=by
 refine⟨by simp [dA],[.str],by simp,by simp,fun p hp=> ?_⟩;obtain⟨q,_,rfl⟩:=xh _ hp;simp
theorem OU (m:List (Bytes×Bool))(s:Bytes):(fJ (sM AV.bool m) (.str s)).getD (.bool false)= .bool (tK m s):=by
 rw [jq,tK];cases gH m s <;> rfl
theorem Td (m:List (Bytes×Bytes))(s:Bytes):(fJ (sM encS' m) (.str s)).getD (.str [])= .str ((gH m s).getD []):=by
 rw [jq];cases gH m s <;> rfl
theorem K6 (b:Nat)(a c:Bytes)(hb:h[b]? =some (.cells 1 [[.str a],[.str c]])):aa Tryz.prog gl 67 [.own b 0 2] h fun v h'=>v= .str (RJ a c)∧h'=h:=by
 refine aa.data (by simp) (aa.body Tryz.f67 _ mixed Tryz.func67 rfl rfl (by simp [Tryz.ntmps67]) ?_);have hb3:=at3 hb;simp [hb3];refine aT.up mixed 2 (fun i fr H=>fr 3= .str []∧fr 6= .own b 0 2∧fr 7= .int .i64 2∧fr 8= .int .i64 i∧(1≤i→a=[])∧(2≤i→c=[])∧H=h) 0 (by omega) ⟨by simp,by simp,by simp,by simp,by omega,by omega,rfl⟩ ?_;rintro i fr H hi ⟨e3,e6,e7,e8,ha,hc,rfl⟩;obtain rfl | rfl | rfl:i=0∨i=1∨i=2:=by omega
 ·by_cases q:a=[]
  ·have ew:=aC (i:=0) (by omega);simp at ew;simp [e3,e6,e7,e8,hb3,q,ew];exact⟨1,by omega,by omega,by omega,by omega⟩
  ·simp [e3,e6,e7,e8,hb3,q,RJ]
 ·have ha':=ha (by omega);by_cases q:c=[]
  ·have ew:=aC (i:=1) (by omega);simp at ew;simp [e3,e6,e7,e8,hb3,q,ha',ew];exact⟨2,by omega,by omega,by omega⟩
  ·simp [e3,e6,e7,e8,hb3,q,ha',RJ]
 ·have ha':=ha (by omega);have hc':=hc (by omega);simp [e3,e6,e7,e8,hb3,ha',hc',RJ]
theorem yJ (p:aA):aa Tryz.prog gl 37 [.agg (aj p)] h fun v h'=>v= .str (LK p)∧h'=h:=by
 refine aa.data (by simp) (aa.body Tryz.f37 _ mixed Tryz.func37 rfl rfl (by simp [Tryz.ntmps37]) ?_);simp [aj];refine ax.pure _ (fun _=>K6 (h.length+1) p.tag p.plate (by simp)) ?_;simp [LK]
theorem IR (p:aA):aa Tryz.prog gl 36 [.agg (aj p)] h fun v h'=>v= .bool (!decide (p.tag=[]))∧h'=h:=by
 refine aa.data (by simp) (aa.body Tryz.f36 _ mixed Tryz.func36 rfl rfl (by simp [Tryz.ntmps36]) ?_);by_cases c:p.tag=[] <;> simp [aj,c]
def IM (l:List aA):Int:=match l.findIdx? (fun p=> !decide (p.tag=[])) with
 | some i=>i
 | none=> -1
theorem xx (l:List aA)(hl:l.length≤1000000):aa Tryz.prog gl 35 [.ro (l.map aj),.fn (.func 36) [] []] h fun v h'=>v= .int .i64 (IM l)∧h'=h:=by
 refine aa.data (by simp) (aa.body Tryz.f35 _ mixed Tryz.func35 rfl rfl (by simp [Tryz.ntmps35]) ?_);simp;refine aT.up mixed l.length (fun i fr H=>fr 0= .ro (l.map aj)∧fr 1= .fn (.func 36) [] []∧fr 7= .int .i64 l.length∧fr 8= .int .i64 i∧(∀j p,j<i→l[j]? =some p→p.tag=[])∧ ∃g,H=h++g) 0 (by omega)
  ⟨by simp,by simp,by simp,by simp,by omega,[],by simp⟩ ?_
 rintro i fr H hi ⟨e0,e1,e7,e8,ha,g,rfl⟩;rcases zN i l.length with hlt | hge
 ·obtain⟨p,hp,hp'⟩:=aN hlt;have ew:=aC (i:=i) (by omega);have hltI:(i:Int)<l.length:=by omega
  simp [e0,e1,e7,e8,hlt,hltI,hp,hp',aj];refine ax.pure _ (fun _=>by simpa [aj] using IR p) ?_;by_cases q:p.tag=[]
  ·simp [e0,e1,e7,e8,q,ew];refine⟨i+1,by omega,by omega,by omega,fun j p' hj hp2=> ?_⟩;rcases zN j i with hji | hji
   ·exact ha j p' hji hp2
   ·obtain rfl:j=i:=by omega
    rw [hp] at hp2;cases hp2;exact q
  ·simp [e0,e1,e7,e8,q];have:l.findIdx? (fun p=> !decide (p.tag=[]))=some i:=by
    rw [List.findIdx?_eq_some_iff_getElem];refine⟨hlt,by rw [hp'];simpa using q,fun j hj=> ?_⟩;have:=ha j l[j] hj (zB (by omega));simp [this]
   rw [IM,this]
 ·obtain rfl:i=l.length:=by omega
  simp [e0,e1,e7,e8];have:l.findIdx? (fun p=> !decide (p.tag=[]))=none:=by
   rw [List.findIdx?_eq_none_iff];intro p hp;obtain⟨j,hj⟩:=List.getElem?_of_mem hp;have:=ha j p (aK hj) hj;simp [this]
  rw [IM,this]
set_option maxHeartbeats 2000000 in
theorem wu (l:List aA)(hl:l.length≤1000000):aa Tryz.prog gl 82 [.ro (l.map aj)] h fun v h'=>v= .map h.length∧ ∃g,h'=h++ .map (sM encS' (iE l l.length))::g:=by
 refine aa.body Tryz.f82 _ mixed Tryz.func82 rfl rfl (by simp [Tryz.ntmps82]) ?_;simp;refine aT.up mixed l.length (fun i fr H=>fr 3= .map h.length∧fr 9= .ro (l.map aj)∧fr 10= .int .i64 l.length∧fr 11= .int .i64 i∧ ∃g,H=h++ .map (sM encS' (iE l i))::g) 0 (by omega)
  ⟨by simp,by simp,by simp,by simp,[],by simp [iE,sM]⟩ ?_
 rintro i fr H hi ⟨e3,e9,e10,e11,g,rfl⟩;rcases zN i l.length with hlt | hge
 ·obtain⟨p,hp,hp'⟩:=aN hlt;have ew:=aC (i:=i) (by omega);have hltI:(i:Int)<l.length:=by omega
  have hko:=Hm (m:=iE l i) p.plate;have hs:=vv encS' (iE l i) p.plate;have hs1:=hs p.tag;have hs2:=hs [];simp only [encS'] at hs1 hs2;by_cases c1:p.tag=[]
  ·have et:iE l (i+1)=iE l i:=by rw [sK hp,if_pos (.inl c1)]
   simp [au,-aW,e3,e9,e10,e11,hlt,hltI,hp,hp',c1,ew];exact⟨i+1,by omega,by omega,by omega,by rw [et]⟩
  ·by_cases c2:p.plate=[]
   ·have et:iE l (i+1)=iE l i:=by rw [sK hp,if_pos (.inr c2)]
    simp [au,-aW,e3,e9,e10,e11,hlt,hltI,hp,hp',c1,c2,ew];exact⟨i+1,by omega,by omega,by omega,by rw [et]⟩
   ·have et:iE l (i+1)=pF (iE l i) p.plate (if (gH (iE l i) p.plate).all (fun t=>decide (t=p.tag))=true then p.tag else []):=by rw [sK hp,if_neg (by simp [c1,c2])]
    cases hg:gH (iE l i) p.plate with
    | none=>
     rw [hg] at et;simp at et;simp [au,-aW,e3,e9,e10,e11,hlt,hltI,hp,hp',c1,c2,ew,hko,jq,hg,hs1];exact⟨i+1,by omega,by omega,by omega,by rw [et]⟩
    | some t=>
     rw [hg] at et;by_cases c3:t=p.tag
     ·simp [c3] at et;simp [au,-aW,e3,e9,e10,e11,hlt,hltI,hp,hp',c1,c2,c3,ew,hko,jq,hg,hs1,encS'];exact⟨i+1,by omega,by omega,by omega,by rw [et]⟩
     ·simp [c3] at et;simp [au,-aW,e3,e9,e10,e11,hlt,hltI,hp,hp',c1,c2,c3,ew,hko,jq,hg,hs2,encS'];exact⟨i+1,by omega,by omega,by omega,by rw [et]⟩
 ·obtain rfl:i=l.length:=by omega
  simp [au,-aW,e3,e9,e10,e11]
theorem tO (l:List aA)(p:aA)(m:Nat)(hm:h[m]? =some (.map (sM encS' (iE l l.length)))):aa Tryz.prog gl 83 [.agg (aj p),.map m] h fun v h'=>v= .str (bP l p)∧h'=h:=by
 refine aa.data (by simp) (aa.body Tryz.f83 _ mixed Tryz.func83 rfl rfl (by simp [Tryz.ntmps83]) ?_);have hm3:=at3 hm;have hko:=Hm (m:=iE l l.length) p.plate;have hlk:=Td (iE l l.length) p.plate;by_cases c1:p.tag=[]
 ·by_cases c2:p.plate=[]
  ·simp [au,-aW,c1,c2,bP]
  ·have eg:=IL (l:=l) c2 l.length;rw [List.take_length] at eg;simp [au,-aW,c1,c2,hm3,hko,hlk];refine ax.pure (.str (RJ ((gH (iE l l.length) p.plate).getD []) p.plate)) (fun _=> ?_) ?_
   ·exact K6 (h.length+1) ((gH (iE l l.length) p.plate).getD []) p.plate (by simp)
   ·simp [bP,c1,c2,eg]
 ·simp [au,-aW,c1,bP]
set_option maxHeartbeats 4000000 in
theorem J8 (l:List aA)(v:Bytes)(hok: ∀p∈l,p.Ok∧p.sources.length≤1000)(hn:l.length<20):aa Tryz.prog gl 43 [.ro (l.map aj),.str v] h fun x h'=>x= .ro ((vW l v).map aj)∧h'=h:=by
 refine aa.fresh' (aa.body Tryz.f43 _ mixed Tryz.func43 rfl rfl (by simp [Tryz.ntmps43]) ?_);by_cases hv:v=[]
 ·simp [hv,vW];exact .nil
 ·simp [hv];refine ax.any (wu l (by omega)) ?_;rintro m h1 ⟨rfl,g1,hh1⟩;have hm1:h1[h.length]? =some (.map (sM encS' (iE l l.length))):=by rw [hh1];simp
  have hb1: ∃g,h1=h++g:=⟨_,hh1⟩;have hln:=aK hm1;clear hh1;simp;refine aT.up mixed l.length (fun i fr H=>fr 1= .str v∧fr 5= .map h.length∧fr 13= .ro (l.map aj)∧fr 14= .int .i64 l.length∧fr 15= .int .i64 i∧(∃g,H=h1++g)∧ ∃y,fr 6=y∧Ls 8 h1.length H y ((I8 l v i).map aj)) 0 (by omega)
   ⟨by simp,by simp,by simp,by simp,by simp,⟨[],by simp⟩,.nil,by simp,by simpa [I8] using Ls.nil⟩ ?_
  rintro i fr H hi ⟨e1,e5,e13,e14,e15,⟨g,rfl⟩,y,e6,hy⟩;rcases zN i l.length with hlt | hge
  ·obtain⟨p,hp,hp'⟩:=aN hlt;have ew:=aC (i:=i) (by omega);have hltI:(i:Int)<l.length:=by omega
   have hyf:=hy.rs.fix;have hlen:=Fu l v i;simp [-ak,-av,-ai,-AV.solid,e1,e5,e6,e13,e14,e15,hlt,hltI,hp,hp',aj];refine ax.pure _ (fun _=>tO l p h.length (aL hm1 _)) ?_;by_cases c:bP l p=v
   ·have eo:I8 l v (i+1)=I8 l v i++[p]:=by rw [HZ hp,if_pos c]
    simp [-ak,-av,-ai,-AV.solid,e1,e5,e6,e13,e14,e15,c,hyf];refine aO (lo:=h1.length) (n:=8) (es:=(I8 l v i).map aj) (ys:=[aj p]) (by simpa [aj] using (hy.more [.cells 8 [aj p],.cells 8 [aj p]])) (by simp) (by simp [bF,aj]) (by simp;omega) ?_;intro s1 H1 hs1 hg1 hn1;have hs1f:=hs1.rs.fix;have hB1:=hg1.base h1 (by omega) (by simpa [aj] using ⟨_,rfl⟩);simp [-ak,-av,-ai,-AV.solid,e1,e5,e6,e13,e14,e15,hs1f,ew];exact⟨i+1,by omega,by omega,by omega,hB1,by rw [eo];simpa using hs1⟩
   ·have eo:I8 l v (i+1)=I8 l v i:=by rw [HZ hp,if_neg c]
    simp [-ak,-av,-ai,-AV.solid,e1,e5,e6,e13,e14,e15,c,hyf,ew];refine⟨i+1,by omega,by omega,by omega,?_⟩;rw [eo];simpa [aj] using hy.more [.cells 8 [aj p]]
  ·obtain rfl:i=l.length:=by omega
   have hlen:=Fu l v l.length;simp [-ak,-av,-ai,-AV.solid,e1,e5,e6,e13,e14,e15,hy.rs.fix];refine ax.pure _ (fun _=>wo _ hy.rs (fun p hp=>hok p (Fv hp).1) (by omega)) ?_;simp;obtain⟨g1,rfl⟩:=hb1;refine⟨⟨_,by rw [zK]⟩,?_⟩;rw [vW,if_neg hv];exact .data _ (.ro _ (Bi fun p hp=>(hok p (Fv (sJ.1 hp)).1).1))
set_option maxHeartbeats 4000000 in
theorem xn (l:List aA)(hn:l.length<20):aa Tryz.prog gl 42 [.ro (l.map aj)] h fun x h'=>x= .ro ((gQ l).map aR)∧h'=h:=by
 refine aa.fresh' (aa.body Tryz.f42 _ mixed Tryz.func42 rfl rfl (by simp [Tryz.ntmps42]) ?_);simp;refine ax.any (wu l (by omega)) ?_;rintro m h1 ⟨rfl,g1,hh1⟩;have hm1:h1[h.length]? =some (.map (sM encS' (iE l l.length))):=by rw [hh1];simp
 have hb1: ∃g,h1=h++g:=⟨_,hh1⟩;have hln:=aK hm1;clear hh1;simp;refine aT.up mixed l.length (fun i fr H=>fr 3= .map h.length∧fr 4= .map h1.length∧fr 12= .ro (l.map aj)∧fr 13= .int .i64 l.length∧fr 14= .int .i64 i∧(∃g,H=h1++g)∧
   (∃m,H[h1.length]? =some (.map (sM AV.bool m))∧ ∀s,tK m s=decide (s∈jG l i))∧ ∃y,fr 5=y∧Ls 1 (h1.length+1) H y ((jG l i).map aR)) 0 (by omega)
  ⟨by simp,by simp,by simp,by simp,by simp,⟨[.map []],by simp⟩,⟨[],by simp [sM],by simp [tK,gH,jG]⟩,.nil,by simp,by simpa [jG] using Ls.nil⟩ ?_
 rintro i fr H hi ⟨e3,e4,e12,e13,e14,⟨g,hH⟩,⟨mm,hM,hmm⟩,y,e5,hy⟩;have hm2:H[h.length]? =some (.map (sM encS' (iE l l.length))):=by rw [hH];exact aL hm1 _
 have hlH:=aK hM;rcases zN i l.length with hlt | hge
 ·obtain⟨p,hp,hp'⟩:=aN hlt;have ew:=aC (i:=i) (by omega);have hltI:(i:Int)<l.length:=by omega
  have hyf:=hy.rs.fix;have hlen:=wJ l i;simp [au,-aW,-ak,-av,-ai,-AV.solid,e3,e4,e5,e12,e13,e14,hlt,hltI,hp,hp',aj];refine ax.pure _ (fun _=>tO l p h.length (aL hm2 _)) ?_;have hv:=NM hp;have hM3:=at3 (aL hM [.cells 8 [aj p]]);simp only [dm] at hM3;generalize bP l p=v at*;have hko:=Hg (m:=mm) v;have hlk:=OU mm v;rw [hmm v] at hlk;by_cases c1:v=[]
  ·rw [if_pos (.inl c1)] at hv;simp [au,-aW,-ak,-av,-ai,-AV.solid,e3,e4,e5,e12,e13,e14,c1,ew];refine⟨i+1,by omega,by omega,by omega,aF ⟨g,hH⟩ _,⟨mm,by simpa using hM3.1,by rw [hv];exact hmm⟩,?_⟩;rw [hv];simpa using hy.more [.cells 8 [aj p]]
  ·by_cases c2:v∈jG l i
   ·rw [if_pos (.inr c2)] at hv;simp [au,-aW,-ak,-av,-ai,-AV.solid,e3,e4,e5,e12,e13,e14,c1,c2,ew,hM3,hko,hlk];refine⟨i+1,by omega,by omega,by omega,aF ⟨g,hH⟩ _,⟨mm,by simpa using hM3.1,by rw [hv];exact hmm⟩,?_⟩;rw [hv];simpa using hy.more [.cells 8 [aj p]]
   ·rw [if_neg (by simp [c1,c2])] at hv;have hset:=vv AV.bool mm v true;simp [au,-aW,-ak,-av,-ai,-AV.solid,e3,e4,e5,e12,e13,e14,c1,c2,hM3,hko,hlk,hset,hyf,hlH];obtain⟨H1,hH1⟩: ∃H1:ae,H1=(H.set h1.length (.map (sM AV.bool (pF mm v true))))++[.cells 8 [aj p],.cells 1 [[.str v]]]:=⟨_,rfl⟩;have hH1':=hH1;simp only [dm] at hH1';have hy1:Ls 1 (h1.length+1) H1 y ((jG l i).map aR):=by rw [hH1];exact (hy.put (by omega)).more _
    have hb2: ∃g,H1=h1++g:=by rw [hH1];exact aF (dI ⟨g,hH⟩ (by omega) _) _
    have hM1:H1[h1.length]? =some (.map (sM AV.bool (pF mm v true))):=by rw [hH1];exact aL (zI hlH) _
    have hl1:=aK hM1;refine aO (lo:=h1.length+1) (n:=1) (es:=(jG l i).map aR) (ys:=[aR v]) (by rw [←hH1'];exact hy1) (by rw [←hH1'];omega) (by simp [bF,aR]) (by simp;omega) ?_;intro s1 H2 hs1 hg1 hn1;rw [←hH1'] at hg1;have hs1f:=hs1.rs.fix;have hB2:=hg1.base h1 (by omega) hb2;have hM2:=hg1.keep _ _ hM1 (jV hy1 hM1);simp [-ak,-av,-ai,-AV.solid,e3,e4,e5,e12,e13,e14,hs1f,ew];refine⟨i+1,by omega,by omega,by omega,hB2,⟨_,hM2,fun s=> ?_⟩,by rw [hv];simpa using hs1⟩;rw [DK,hmm,hv,Bool.eq_iff_iff];simp [or_comm]
 ·obtain rfl:i=l.length:=by omega
  have hlen:=wJ l l.length;simp [-ak,-av,-ai,-AV.solid,e3,e4,e5,e12,e13,e14,hy.rs.fix];refine ax.any (wE (jG l l.length) hy (by omega)) ?_;rintro v h2 ⟨rfl,hy2,hl2,hk2⟩;have hb2: ∃g,h2=h++g:=by
   obtain⟨g0,rfl⟩:=hb1;subst hH;refine jv ⟨g0++g,by rw [zK]⟩ (fun b o hb ho=>hk2 b o ho fun off len e=> ?_) (by rw [hl2];simp);have:=hy.above _ _ _ e;simp at this;omega
  simp [-ak,-av,-ai,-AV.solid,e3,e4,e5,e12,e13,e14,hy2.rs.fix];exact⟨hb2,hy2.frz (by omega) (mM _)⟩
set_option maxHeartbeats 4000000 in
theorem Et (l:List aA) {x:AV} (hx:Rs 8 h x (l.map aj))(hok: ∀p∈l,p.Ok∧p.sources.length≤1000)(hn:l.length<20):aa Tryz.prog gl 34 [x] h fun v h'=>v= .ro ((bT l).map aj)∧h'=h:=by
 refine aa.fresh' (aa.body Tryz.f34 _ mixed Tryz.func34 rfl rfl (by simp [Tryz.ntmps34]) ?_);have hx1:=hx.append [.map []];simp [hx.fix];refine ax.pure _ (fun _=>wo l hx1 hok hn) ?_;have hSl:(fH l).length=l.length:=sI l;have hSm: ∀p∈bT l,p∈l:=fun p hp=>by
  have:=lU hp;rw [List.take_length] at this;exact sJ.1 this
 have hon:bT l=gq (fH l) (fH l).length:=rfl;generalize fH l=S at*;simp;refine aT.up mixed S.length (fun i fr H=>fr 3= .map h.length∧fr 9= .ro (S.map aj)∧fr 10= .int .i64 S.length∧fr 11= .int .i64 i∧(∃g,H=h++g)∧
   (∃m,H[h.length]? =some (.map (sM AV.bool m))∧ ∀s,tK m s=(S.take i).any fun q=>decide (q.id=s))∧ ∃y,fr 4=y∧Ls 8 (h.length+1) H y ((gq S i).map aj)) 0 (by omega)
  ⟨by simp,by simp,by simp,by simp,⟨_,rfl⟩,⟨[],by simp [sM],by simp [tK,gH]⟩,.nil,by simp,by simpa [gq] using Ls.nil⟩ ?_
 rintro i fr H hi ⟨e3,e9,e10,e11,⟨g,hH⟩,⟨mm,hM,hmm⟩,y,e4,hy⟩;have hlH:=aK hM;rcases zN i S.length with hlt | hge
 ·obtain⟨p,hp,hp'⟩:=aN hlt;have ew:=aC (i:=i) (by omega);have hltI:(i:Int)<S.length:=by omega
  have hyf:=hy.rs.fix;have hlen:=sj S i;have hM3:=at3 (aL hM [.cells 8 [aj p]]);simp only [dm] at hM3;have hko:=Hg (m:=mm) p.id;have hlk:=OU mm p.id;rw [hmm p.id] at hlk;have ho:=JZ hp;have ht: ∀s,((S.take (i+1)).any fun q=>decide (q.id=s))=(((S.take i).any fun q=>decide (q.id=s)) || decide (p.id=s)):=fun s=>by rw [zM,hp];simp
  unfold yl at ho;by_cases c:((S.take i).any fun q=>decide (q.id=p.id))=true
  ·rw [if_pos c] at ho;rw [c] at hlk;simp [au,-aW,-ak,-av,-ai,-AV.solid,-List.any_eq_true,e3,e4,e9,e10,e11,hlt,hltI,hp,hp',hM3,hko,hlk,ew];refine⟨i+1,by omega,by omega,by omega,aF ⟨g,hH⟩ _,⟨mm,by simpa using hM3.1,fun s=> ?_⟩,?_⟩
   ·rw [hmm,ht];by_cases e:p.id=s
    ·subst e;rw [c];rfl
    ·simp [e]
   ·rw [ho];simpa using hy.more [.cells 8 [aj p]]
  ·rw [if_neg c] at ho;have c':((S.take i).any fun q=>decide (q.id=p.id))=false:=by simpa using c
   rw [c'] at hlk;have hset:=vv AV.bool mm p.id true;simp [au,-aW,-ak,-av,-ai,-AV.solid,-List.any_eq_true,e3,e4,e9,e10,e11,hlt,hltI,hp,hp',hM3,hko,hlk,hset,hyf,hlH];obtain⟨H1,hH1⟩: ∃H1:ae,H1=(H.set h.length (.map (sM AV.bool (pF mm p.id true))))++[.cells 8 [aj p],.cells 8 [aj p]]:=⟨_,rfl⟩;have hH1':=hH1;simp only [dm] at hH1';have hy1:Ls 8 (h.length+1) H1 y ((gq S i).map aj):=by rw [hH1];exact (hy.put (by omega)).more _
   have hb2: ∃g,H1=h++g:=by rw [hH1];exact aF (dI ⟨g,hH⟩ (by omega) _) _
   have hM1:H1[h.length]? =some (.map (sM AV.bool (pF mm p.id true))):=by rw [hH1];exact aL (zI hlH) _
   have hl1:=aK hM1;refine aO (lo:=h.length+1) (n:=8) (es:=(gq S i).map aj) (ys:=[aj p]) (by rw [←hH1'];exact hy1) (by rw [←hH1'];omega) (by simp [bF]) (by simp;omega) ?_;intro s1 H2 hs1 hg1 hn1;rw [←hH1'] at hg1;have hs1f:=hs1.rs.fix;have hB2:=hg1.base h (by omega) hb2;have hM2:=hg1.keep _ _ hM1 (jV hy1 hM1);simp [-ak,-av,-ai,-AV.solid,e3,e4,e9,e10,e11,hs1f,ew];refine⟨i+1,by omega,by omega,by omega,hB2,⟨_,hM2,fun s=> ?_⟩,by rw [ho];simpa using hs1⟩;rw [DK,hmm,ht,Bool.or_comm];congr 1
   rw [Bool.eq_iff_iff];simp [eq_comm]
 ·obtain rfl:i=S.length:=by omega
  simp [-ak,-av,-ai,-AV.solid,e3,e4,e9,e10,e11,hy.rs.fix];refine⟨⟨g,hH⟩,?_⟩;rw [hon];exact hy.frz (by omega) (Bi fun p hp=>(hok p (hSm p (by rw [hon];exact hp))).1)
def vT:Nat→Option (List (Nat×Nat)):=fun id=>if id=0 then some [(3,13),(5,13),(7,13),(8,13)] else if id=1 then some [(3,10),(5,10),(7,10)] else if id=12 then some [(4,7)] else none
theorem Hl {m:List (Bytes×Int)} (s:Bytes):aW Tryz.prog 9 (.str s) (sM encZ' m):=by
 refine⟨by simp [dA],[.str],by simp,by simp,fun p hp=> ?_⟩;obtain⟨q,_,rfl⟩:=xh _ hp;simp
def qF (m:List (Bytes×Int))(id:Bytes):Int:=(gH m id).getD 0
set_option maxHeartbeats 8000000 in
theorem I1 (l:List bn)(k:Nat)(before:Bytes) {t:aZ} {veh:Bytes} {mb:Nat} {m:List (Bytes×Int)} {b lo:Nat} {tr ou op:AV} {w:dh} (hw:u6 t veh mb m b lo h tr ou op w)(hk:h[k]? =some (.cells 3 (l.map af)))
  (hne:l≠[]) (hl:l.length≤1000) (hbl:before.length≤1000000) (hal: ∀x∈l,x.point.length≤1000000) (htr:w.trips.length≤1000000) (hopf:op.core=op∧op.gd=true∧op.solid=true∧ai op=[op]) (hp:t.net.pts.length≤1000) (hlk:t.net.lks.length≤1000) (hsy:t.sys.length≤1000):
  aa Tryz.prog gl 111 [.ptr b 0 0,.own k 0 l.length,.str before] h fun v h'=>v= .tup []∧(∃tr',u6 t veh mb m b lo h' tr' ou op { w with trips:=w.trips++[p9 t veh (qF m) l before] })∧nL lo h h':=by
 refine aa.bodyL vT Tryz.f111 _ mixed Tryz.func111 rfl rfl (by simp [Tryz.ntmps111]) ?_;have hpos:=List.length_pos_iff.2 hne;obtain⟨a,ha,ha'⟩:=aN hpos;have hb3:=at3 hw.blk;have hk3:=at3 hk;simp only [iF] at hb3;have sya:=fun (H:ae)=>gz (gl:=gl) (h:=H) t a.point hp hlk hsy;have e1:iM t a.point=((dQ t a.point).getD sys0).name:=rfl;have htm:p9 t veh (qF m) l before=⟨if (aQ l).headD []=[] then before++[43]++a.point else (aQ l).headD [],veh,iM t a.point,max (MO ((aQ l).map (qF m))) 1,l⟩:=by
  have:l.headD ⟨[],0,[]⟩=a:=by cases l with
   | nil=>exact absurd rfl hne
   | cons x r=>simpa using ha
  simp only [p9,this]
 rw [htm,e1];clear htm e1;generalize (dQ t a.point).getD sys0=y at*;generalize (dQ t a.point).isSome=z at*;obtain⟨T,hT⟩: ∃T:bQ,T=⟨if (aQ l).headD []=[] then before++[43]++a.point else (aQ l).headD [],veh,y.name,max (MO ((aQ l).map (qF m))) 1,l⟩:=⟨_,rfl⟩;rw [←hT];have hz1:=at3 (aL hw.blk [.cells 3 [[.str [],.bool false,.int .i64 0]]]);have hz2:=at3 (aL hk [.cells 3 [[.str [],.bool false,.int .i64 0]]]);have hz3:=at3 (aL hw.blk [.cells 3 [[.str y.name,.bool y.closed,.int .i64 y.most]]]);simp only [iF] at hz1 hz3;have hk4: ∀g:ae,aa Tryz.prog gl 143 [.own k 0 l.length] (h++g) fun v h'=>v= .ro (l.map af)∧h'=h++g:=fun g=>BM l k (aL hk g) (by omega);simp [vT,-ai,-AV.solid,af,hb3,hk3,hpos,ha,ha'];refine⟨by decide,?_⟩;refine ax.pure _ (fun _=>sya _) ?_;simp [vT,-ai,-AV.solid,af,hb3,hk3,hz1,hz2,hz3,hpos,ha,ha'];refine⟨ax.pure _ (fun _=>sya _) (by simp),?_⟩;refine⟨by decide,?_⟩;refine ax.pure _ (fun _=>hk4 _) ?_;have hz4:=at3 (aL hw.blk [.cells 3 [[.str y.name,.bool y.closed,.int .i64 y.most]],.cells 5 [[.str [],.str [],.str [],.int .i64 0,.nil]]]);simp only [iF] at hz4;simp [vT,-ai,-AV.solid,af,hz3,hz4];refine⟨ax.pure _ (fun _=>hk4 _) (by simp),?_⟩;have psg:=fun (H:ae)=>nJ (gl:=gl) (h:=H) ⟨[],veh,y.name,0,l⟩ (by show l.length≤_;omega);refine ax.pure _ (fun _=>by simpa [aB] using psg _) ?_;simp [vT,-ai,-AV.solid];obtain⟨c1,hc1⟩: ∃c1:bU,c1= .cells 3 [[.str y.name,.bool y.closed,.int .i64 y.most]]:=⟨_,rfl⟩;obtain⟨c2,hc2⟩: ∃c2:bU,c2= .cells 5 [[.str [],.str veh,.str y.name,.int .i64 0,.ro (l.map af)]]:=⟨_,rfl⟩;rw [←hc1,←hc2];have hpl:=lV l;refine aT.upL vT mixed (aQ l).length (fun i fr H=>fr 0= .ptr b 0 0∧fr 1= .own k 0 l.length∧fr 2= .str before∧fr 8= .ptr (h.length+1) 0 0∧fr 34= .ro ((aQ l).map aR)∧fr 35= .int .i64 (aQ l).length∧fr 36= .int .i64 i∧(∃g,H=h++c1::c2::g)∧ ∃z,fr 9=z∧Ls 1 (h.length+2) H z ((((aQ l).take i).map (qF m)).map encI')) 0 (by omega)
  ⟨by simp,by simp,by simp,by simp,by simp,by simp,by simp,⟨[],rfl⟩,.nil,by simp,by simpa using Ls.nil⟩ ?_
 rintro i fr H hi ⟨e0,e1,e2,e8,e34,e35,e36,⟨g,rfl⟩,zz,e9,hzz⟩;have hzf:=hzz.rs.fix;have hbH:=at3 (aL hw.blk (c1::c2::g));have hmH:=at3 (aL hw.mp (c1::c2::g));simp only [iF] at hbH;rcases zN i (aQ l).length with hlt | hge
 ·obtain⟨s,hs,hs'⟩:=aN hlt;have ew:=aC (i:=i) (by omega);have hlk:((gH m s).map encZ').getD (.int .i64 0)= .int .i64 (qF m s):=by unfold qF;cases gH m s <;> rfl
  have hko:=Hl (m:=m) s;have htk:(aQ l).take (i+1)=(aQ l).take i++[s]:=by rw [zM,hs];rfl
  have htl:=List.length_take_le i (aQ l);simp [vT,-ak,-av,-ai,-AV.solid,-aW,aR,e0,e1,e2,e8,e9,e34,e35,e36,hlt,hs,hs',hbH,hmH,jq,hlk,hko,hzf];refine aO (lo:=h.length+2) (n:=1) (es:=((((aQ l).take i).map (qF m)).map encI')) (ys:=[encI' (qF m s)]) (by simpa using hzz.more [.cells 1 [[.int .i64 (qF m s)]]]) (by simp <;> omega) (by simp [bF,encI']) (by simp <;> omega) ?_;intro s1 H1 hs1 hg1 hn1;have hs1f:=hs1.rs.fix;obtain⟨g',hg'⟩:=hg1.base (h++[c1,c2]) (by simp) ⟨g++[.cells 1 [[.int .i64 (qF m s)]]],by simp⟩;subst hg';simp [vT,-ak,-av,-ai,-AV.solid,e0,e1,e2,e8,e34,e35,e36,hs1f,ew];exact⟨i+1,by omega,by omega,by omega,by rw [←List.map_take,htk];simpa using hs1⟩
 ·obtain rfl:i=(aQ l).length:=by omega
  rw [List.take_length] at hzz;simp [vT,-ai,-AV.solid,e0,e1,e2,e8,e9,e34,e35,e36,hzf];refine ax.pure _ (fun _=>zT _ zz hzz.rs (by simp;omega)) ?_;have hTi:T.id=if (aQ l).headD []=[] then before++[43]++a.point else (aQ l).headD []:=by rw [hT]
  have hTr:T.veh=veh∧T.sys=y.name∧T.cls=max (MO ((aQ l).map (qF m))) 1∧T.stops=l:=by rw [hT];exact⟨rfl,rfl,rfl,rfl⟩
  clear hT;generalize MO ((aQ l).map (qF m))=M at*;subst hc1 hc2;have idc:=fun (H:ae)=>zh (gl:=gl) (h:=H) ⟨[],veh,y.name,max M 1,l⟩ (by show l.length≤_;omega);have hid:JF ⟨[],veh,y.name,max M 1,l⟩=(aQ l).headD []:=rfl;rw [hid] at idc;generalize (aQ l).headD []=I at*;simp [vT,-ai,-AV.solid,e0,e1,e2,e8];refine ax.pure _ (fun _=>by simpa [aB] using idc _) ?_;obtain⟨c1,hc1⟩: ∃c1:bU,c1= .cells 3 [[.str y.name,.bool y.closed,.int .i64 y.most]]:=⟨_,rfl⟩;rw [←hc1];have hkq:=at3 (aL hk (c1:: .cells 5 [[.str I,.str veh,.str y.name,.int .i64 (max M 1),.ro (l.map af)]]::g));have hapl:=hal a (zF ha);by_cases hI:I=[]
  ·rw [if_pos hI] at hTi;subst hI;have hGl: ∀g':ae,T=T→True:=fun _ _=>trivial;obtain⟨G,hG⟩: ∃G:ae,G=c1:: .cells 5 [[.str (before++43::a.point),.str veh,.str y.name,.int .i64 (max M 1),.ro (l.map af)]]::g:=⟨_,rfl⟩;have hTc:aB T=[.str (before++43::a.point),.str veh,.str y.name,.int .i64 (max M 1),.ro (l.map af)]:=by
    obtain⟨q1,q2,q3,q4⟩:=hTr;simp only [aB,hTi,q1,q2,q3,q4];simp
   have hbG:=aL hw.blk G;have hmG:=aL hw.mp G;have htG:=hw.trips.more G;have hoG:=hw.out.more G;have hlo:=hw.low;have hlo2:=aK hw.blk;have hKG:nL lo h (h++G):=(nL.refl lo h).more G;obtain⟨c3,hc3⟩: ∃c3:bU,c3= .cells 5 [aB T]:=⟨_,rfl⟩;have hbG3:=at3 hbG;have hbG4:=at3 (aL hbG [c3]);have htf:=hw.trips.rs.fix;have huf:=hw.out.rs.fix;simp only [iF] at hbG3 hbG4;rw [hTc] at hc3;rw [hG] at hbG3 hbG4;rw [hc3] at hbG4;simp only [zK,List.cons_append] at hbG3 hbG4;simp [vT,-ak,-av,-ai,-AV.solid,af,e0,e1,e2,e8,hkq,hpos,ha,ha',hbG3,hbG4,htf];refine⟨by omega,by omega,by decide,?_⟩;have hHe:h++c1:: .cells 5 [[.str (before++43::a.point),.str veh,.str y.name,.int .i64 (max M 1),.ro (l.map af)]]::(g++[.cells 5 [[.str (before++43::a.point),.str veh,.str y.name,.int .i64 (max M 1),.ro (l.map af)]]])=h++(G++[c3]):=by rw [hG,hc3];simp
   have hap:bF Tryz.prog (h++(G++[c3])) [32,32] 5 (.own (h.length+(g.length+1+1)) 0 1) [aB T]:=by rw [hG,hc3,hTc];simp [bF]
   rw [hHe];have hB5:=aL hw.blk (G++[c3]);have hM5:=aL hw.mp (G++[c3]);have hT5:=hw.trips.more (G++[c3]);have hO5:=hw.out.more (G++[c3]);have hK5:=(nL.refl lo h).more (G++[c3]);have hlt5:=aK hB5;refine aO (lo:=lo) (n:=5) (es:=w.trips.map aB) (ys:=[aB T]) hT5 (by omega) hap (by simp;omega) ?_;intro s1 H1 hs1 hg1 hn1;have hs1f:=hs1.rs.fix;have hb1:=hg1.keep b _ hB5 (qX hT5 hB5 (by decide));have hm1:=hg1.keep mb _ hM5 (jV hT5 hM5);have ho1:=gp hO5 hT5 (by decide) hg1;have hk1:=hK5.grow hT5 (by decide) hg1;have hb13:=at3 hb1;have hbq:=at3 hB5;simp only [iF] at hb13 hbq;simp [vT,-ak,-av,-ai,-AV.solid,e0,e1,e2,e8,hs1f,hb13,hbq,htf];refine⟨⟨s1,?_⟩,hk1.set hb1 (by decide) hlo _⟩;refine⟨?_,get_put hb1 hm1 (nz hb1 hm1),?_,iB ho1 hb1 (by decide) _,hw.low,hw.lom⟩
   ·rw [zI hb13.2.1];simp [iF]
   ·have:=iB hs1 hb1 (by decide) (.cells 10 [iF t veh mb s1 ou op w.before w.last]);simpa [iF] using this
  ·rw [if_neg hI] at hTi;have hGl: ∀g':ae,T=T→True:=fun _ _=>trivial;obtain⟨G,hG⟩: ∃G:ae,G=c1:: .cells 5 [[.str I,.str veh,.str y.name,.int .i64 (max M 1),.ro (l.map af)]]::g:=⟨_,rfl⟩;have hTc:aB T=[.str I,.str veh,.str y.name,.int .i64 (max M 1),.ro (l.map af)]:=by
    obtain⟨q1,q2,q3,q4⟩:=hTr;simp only [aB,hTi,q1,q2,q3,q4]
   have hbG:=aL hw.blk G;have hmG:=aL hw.mp G;have htG:=hw.trips.more G;have hoG:=hw.out.more G;have hlo:=hw.low;have hlo2:=aK hw.blk;have hKG:nL lo h (h++G):=(nL.refl lo h).more G;obtain⟨c3,hc3⟩: ∃c3:bU,c3= .cells 5 [aB T]:=⟨_,rfl⟩;have hbG3:=at3 hbG;have hbG4:=at3 (aL hbG [c3]);have htf:=hw.trips.rs.fix;have huf:=hw.out.rs.fix;simp only [iF] at hbG3 hbG4;rw [hTc] at hc3;rw [hG] at hbG3 hbG4;rw [hc3] at hbG4;simp only [zK,List.cons_append] at hbG3 hbG4;simp [vT,-ak,-av,-ai,-AV.solid,af,e0,e1,e2,e8,hI,hbG3,hbG4,htf];refine⟨by decide,?_⟩;have hHe:h++c1:: .cells 5 [[.str I,.str veh,.str y.name,.int .i64 (max M 1),.ro (l.map af)]]::(g++[.cells 5 [[.str I,.str veh,.str y.name,.int .i64 (max M 1),.ro (l.map af)]]])=h++(G++[c3]):=by rw [hG,hc3];simp
   have hap:bF Tryz.prog (h++(G++[c3])) [32,32] 5 (.own (h.length+(g.length+1+1)) 0 1) [aB T]:=by rw [hG,hc3,hTc];simp [bF]
   rw [hHe];have hB5:=aL hw.blk (G++[c3]);have hM5:=aL hw.mp (G++[c3]);have hT5:=hw.trips.more (G++[c3]);have hO5:=hw.out.more (G++[c3]);have hK5:=(nL.refl lo h).more (G++[c3]);have hlt5:=aK hB5;refine aO (lo:=lo) (n:=5) (es:=w.trips.map aB) (ys:=[aB T]) hT5 (by omega) hap (by simp;omega) ?_;intro s1 H1 hs1 hg1 hn1;have hs1f:=hs1.rs.fix;have hb1:=hg1.keep b _ hB5 (qX hT5 hB5 (by decide));have hm1:=hg1.keep mb _ hM5 (jV hT5 hM5);have ho1:=gp hO5 hT5 (by decide) hg1;have hk1:=hK5.grow hT5 (by decide) hg1;have hb13:=at3 hb1;have hbq:=at3 hB5;simp only [iF] at hb13 hbq;simp [vT,-ak,-av,-ai,-AV.solid,e0,e1,e2,e8,hs1f,hb13,hbq,htf];refine⟨⟨s1,?_⟩,hk1.set hb1 (by decide) hlo _⟩;refine⟨?_,get_put hb1 hm1 (nz hb1 hm1),?_,iB ho1 hb1 (by decide) _,hw.low,hw.lom⟩
   ·rw [zI hb13.2.1];simp [iF]
   ·have:=iB hs1 hb1 (by decide) (.cells 10 [iF t veh mb s1 ou op w.before w.last]);simpa [iF] using this
def mV:Nat→Option sZ:=fun id=>if id=3 then some (.last 7 [(6,0)]) else if id=6 then some (.last 14 [(7,0)]) else if id=8 then some (.last 12 [(4,7),(11,0),(11,7)]) else if id=11 then some (.last 11 [(4,7)]) else none
structure WL (w:dh):Prop where
 trips:w.trips.length≤900000
 out:w.out.length≤900000
 opn:w.opn.length≤900
 before:w.before.length≤1000000
 last:w.last.length≤1000000
 stops: ∀x∈w.opn,(0≤x.time∧x.time<68719476736)∧x.point.length≤1000000
theorem Rb (t:aZ)(l:List bn)(s:bn):uf t l s=0∨uf t l s=1∨uf t l s=2∨uf t l s=3∨uf t l s=4∨uf t l s=5:=by
 unfold uf;split
 ·simp
 split
 ·simp
 split
 ·split <;> simp
 ·split <;> simp
set_option maxHeartbeats 8000000 in
theorem NI (s:bn) {t:aZ} {veh:Bytes} {mb:Nat} {m:List (Bytes×Int)} {b lo:Nat} {tr ou op:AV} {w:dh} (hw:u6 t veh mb m b lo h tr ou op w)(hop:Ls 3 lo h op (w.opn.map af))(hb:WL w)
  (hs:(0≤s.time∧s.time<68719476736)∧s.point.length≤1000000) (hp:t.net.pts.length≤1000) (hlk:t.net.lks.length≤1000) (hsy:t.sys.length≤1000):
  aa Tryz.prog gl 77 [.ptr b 0 0,.agg (af s)] h fun v h'=>v= .tup []∧(∃tr' ou' op',u6 t veh mb m b lo h' tr' ou' op' (dE t veh (qF m) w s)∧Ls 3 lo h' op' ((dE t veh (qF m) w s).opn.map af))∧ ∀h0:ae,h0.length≤lo→ ∀x:ae,h=h0++x→ ∃g,h'=h0++g:=by
 refine aa.bodyN mV Tryz.f77 _ mixed Tryz.func77 rfl rfl (by simp [Tryz.ntmps77]) ?_;have hof:=hop.rs.fix;have hlo:=hw.low;have hbl:=aK hw.blk;have hw1:=hw.more [.cells 3 [af s]];have hop1:=hop.more [.cells 3 [af s]];have wh:=NP (gl:=gl) s hw1 hop1 (by have:=hb.opn;omega) hs.1 (fun x hx=>(hb.stops x hx).1) hp hlk hsy;have hK1:nL lo h (h++[.cells 3 [af s]]):=(nL.refl lo h).more _;simp [mV,-aY,af];refine ax.pure _ (fun _=>by simpa [af] using wh) ?_;unfold dE qw;rcases Rb t w.opn s with q | q | q | q | q | q
 case inr.inr.inr.inr.inr=>
  rw [q];simp [mV,-aY,af];have hw2:=hw.more [.cells 3 [af s],.cells 3 [af s]];refine ax.any (pR 12 [s] (.own (h.length+1) 0 1) (by simpa [af] using hw2) (Rs.own (es:=[af s]) (by simp [af]) (by simp)) (by simp) (by have:=hb.out;omega) hof) ?_;rintro v h' ⟨rfl,⟨ou',hW⟩,hK⟩;have hsx:=hK.stops h.length [af s] (by simp [af]);have hK2:nL lo h (h++[.cells 3 [af s],.cells 3 [af s]]):=(nL.refl lo h).more _;have hKa:nL lo h h':=hK2.trans hK;have hLs:=hKa.ls hop;have hs3:=at3 hsx;simp only [af] at hs3;have hb4:=at3 hW.blk;simp only [iF] at hb4;have htf:=hW.trips.rs.fix;have huf:=hW.out.rs.fix;have hpf:=hLs.rs.fix;by_cases c:s.pass=[]
  ·simp [mV,-aY,-ai,-AV.solid,c,hs3,hb4,htf,huf,hpf];exact⟨⟨_,_,_,hW,hLs⟩,fun h0 h1 x e=>hKa.base h0 h1 ⟨x,e⟩⟩
  ·simp [mV,-aY,-ai,-AV.solid,c,hs3,hb4,htf,huf,hpf];exact⟨⟨_,_,_,hW.put (w':= { w with out:=w.out++gG 12 [s],last:=s.pass }) _ rfl rfl,iB hLs hW.blk (by decide) _⟩,fun h0 h1 x e=>(hKa.set hW.blk (by decide) hlo _).base h0 h1 ⟨x,e⟩⟩
 case inr.inr.inr.inr.inl=>
  rw [q];simp [mV,-aY,af];have hw2:=hw.more [.cells 3 [af s]];refine ax.any (sP (by simpa [af] using hw2) (by simpa [af] using hop1) (by have:=hb.opn;omega) (by have:=hb.out;omega)) ?_;rintro v h1 ⟨rfl,⟨ou1,hW1⟩,hKb⟩;have hsx1:=hKb.stops h.length [af s] (by simp [af]);have hs4:=at3 hsx1;simp only [af] at hs4;have hKc:nL lo h h1:=hK1.trans hKb;simp [mV,-aY,hs4];have hw3:=hW1.more [.cells 3 [af s]];refine ax.any (pR 10 [s] (.own h1.length 0 1) (by simpa [af] using hw3) (Rs.own (es:=[af s]) (by simp [af]) (by simp)) (by simp) (by have:=hb.out;have:=hb.opn;have:=gU 11 w.opn;simp [vH];omega) (by simp)) ?_;rintro v h' ⟨rfl,⟨ou',hW⟩,hK⟩;have hW:u6 t veh mb m b lo h' tr ou' .nil { w with out:=w.out++(gG 11 w.opn++gG 10 [s]),opn:=[] }:=by simpa [vH] using hW
  have hsx:=hK.stops h.length [af s] (aL hsx1 _);have hKd:nL lo h (h1++[.cells 3 [af s]]):=hKc.more _;have hKa:nL lo h h':=hKd.trans hK;have hLs:Ls 3 lo h' .nil ([].map af):=Ls.nil;have hs3:=at3 hsx;simp only [af] at hs3;have hb4:=at3 hW.blk;simp only [iF] at hb4;have htf:=hW.trips.rs.fix;have huf:=hW.out.rs.fix;have hpf:=hLs.rs.fix;by_cases c:s.pass=[]
  ·simp [mV,-aY,-ai,-AV.solid,c,hs3,hb4,htf,huf,hpf];exact⟨⟨_,_,_,hW,hLs⟩,fun h0 h1 x e=>hKa.base h0 h1 ⟨x,e⟩⟩
  ·simp [mV,-aY,-ai,-AV.solid,c,hs3,hb4,htf,huf,hpf];exact⟨⟨_,_,_,hW.put (w':= { w with out:=w.out++(gG 11 w.opn++gG 10 [s]),opn:=[],last:=s.pass }) _ rfl rfl,iB hLs hW.blk (by decide) _⟩,fun h0 h1 x e=>(hKa.set hW.blk (by decide) hlo _).base h0 h1 ⟨x,e⟩⟩
 case inl=>
  rw [q];have hb5:=at3 hw1.blk;have hw2:=hw.more [.cells 3 [af s],.cells 3 [af s]];have hb6:=at3 hw2.blk;simp only [iF,af] at hb5 hb6;simp [mV,au,-ai,-AV.solid,af,hb5,hb6,hof];refine⟨by decide,?_⟩;refine ax.any (I1 [s] (h.length+1) w.last (by simpa [af] using hw2) (by simp [af]) (by simp) (by simp) hb.last (by intro x hx;obtain rfl:=List.mem_singleton.1 hx;exact hs.2) (by have:=hb.trips;omega) hof hp hlk hsy) ?_;rintro v h' ⟨rfl,⟨tr',hW⟩,hK⟩;have hsx:=hK.stops h.length [af s] (by simp [af]);have hK2:nL lo h (h++[.cells 3 [af s],.cells 3 [af s]]):=(nL.refl lo h).more _;have hKa:nL lo h h':=hK2.trans hK;have hLs:=hKa.ls hop;have hs3:=at3 hsx;simp only [af] at hs3;have hb4:=at3 hW.blk;simp only [iF] at hb4;have htf:=hW.trips.rs.fix;have huf:=hW.out.rs.fix;have hpf:=hLs.rs.fix;by_cases c:s.pass=[]
  ·simp [mV,-aY,-ai,-AV.solid,c,hs3,hb4,htf,huf,hpf];exact⟨⟨_,_,_,hW,hLs⟩,fun h0 h1 x e=>hKa.base h0 h1 ⟨x,e⟩⟩
  ·simp [mV,-aY,-ai,-AV.solid,c,hs3,hb4,htf,huf,hpf];exact⟨⟨_,_,_,hW.put (w':= { w with trips:=w.trips++[p9 t veh (qF m) [s] w.last],last:=s.pass }) _ rfl rfl,iB hLs hW.blk (by decide) _⟩,fun h0 h1 x e=>(hKa.set hW.blk (by decide) hlo _).base h0 h1 ⟨x,e⟩⟩
 case inr.inl=>
  rw [q];simp [mV,-aY,af];refine ax.any (sP (by simpa [af] using hw1) (by simpa [af] using hop1) (by have:=hb.opn;omega) (by have:=hb.out;omega)) ?_;rintro v h1 ⟨rfl,⟨ou1,hW1⟩,hKb⟩;have hsx1:=hKb.stops h.length [af s] (by simp [af]);have hs4:=at3 hsx1;simp only [af] at hs4;have hKc:nL lo h h1:=hK1.trans hKb;have hb5:=at3 hW1.blk;have hW2:=hW1.more [.cells 3 [af s]];have hb6:=at3 hW2.blk;simp only [iF,af] at hb5 hb6;have htf1:=hW1.trips.rs.fix;have huf1:=hW1.out.rs.fix;have hne:b≠h.length:=by omega
  have hs5:=fun o:bU=>at3 (get_put (p:=o) hW1.blk hsx1 hne);simp only [af] at hs5;have hl1:=aK hsx1;have hb1l:=aK hW1.blk;have put1:=fun (la:Bytes)=>(hW1.put (w':= { w with out:=w.out++gG 11 w.opn,opn:=[s],before:=w.last,last:=la }) (.own h1.length 0 1) rfl rfl).more [.cells 3 [af s]];have ls1: ∀o:bU,Ls 3 lo (h1.set b o++[.cells 3 [af s]]) (.own h1.length 0 1) ([s].map af):=fun o=>Ls.own (by rw [zD (by simp)];simp) (by omega) (by simp) (by simp);have hKa:=fun o:bU=>(hKc.set hW1.blk (by decide) hlo o).more [.cells 3 [af s]];by_cases c:s.pass=[]
  ·simp [mV,au,-ai,-AV.solid,hs4,hs5,hb5,hb6,htf1,huf1,hb1l,c];refine⟨⟨by decide,by decide⟩,⟨tr,ou1,.own h1.length 0 1,by simpa [iF,af,vH,c] using put1 w.last,by simpa [af,c] using ls1 _⟩,fun h0 h1 x e=>by simpa [af,c] using (hKa _).base h0 h1 ⟨x,e⟩⟩
  ·simp [mV,au,-ai,-AV.solid,hs4,hs5,hb5,hb6,htf1,huf1,hb1l,c];refine⟨⟨by decide,by decide⟩,⟨tr,ou1,.own h1.length 0 1,by simpa [iF,af,vH] using put1 s.pass,by simpa [af] using ls1 _⟩,fun h0 h1 x e=>by simpa [af] using (hKa _).base h0 h1 ⟨x,e⟩⟩
 case inr.inr.inl=>
  rw [q];have hb5:=at3 hw1.blk;have hw2:=hw.more [.cells 3 [af s],.cells 3 [af s]];have hb6:=at3 hw2.blk;simp only [iF,af] at hb5 hb6;simp [mV,au,-ak,-av,-ai,-AV.solid,af,hb5,hb6,hof];have hop2:=hop.more [.cells 3 [af s],.cells 3 [af s]];refine⟨⟨by decide,by decide⟩,?_⟩;refine aO (lo:=lo) (n:=3) (es:=w.opn.map af) (ys:=[af s]) (by simpa [af] using hop2) (by simp;omega) (by simp [bF,af]) (by have:=hb.opn;simp;omega) ?_;intro s1 H1 hs1 hg1 hn1;have hg1:Grow lo (h++[.cells 3 [af s],.cells 3 [af s]]) op H1:=by simpa [af] using hg1
  have hb1:=hg1.keep b _ hw2.blk (qX hop2 hw2.blk (by decide));have hm1:=hg1.keep mb _ hw2.mp (jV hop2 hw2.mp);have ht1:=gp hw2.trips hop2 (by decide) hg1;have ho1:=gp hw2.out hop2 (by decide) hg1;have hW1:u6 t veh mb m b lo H1 tr ou op w:=⟨hb1,hm1,ht1,ho1,hw.low,hw.lom⟩;have hx1:H1[h.length]? =some (.cells 3 [af s]):=hg1.keep h.length _ (by simp) (fun off len e=>by
   rcases hop.1 with⟨e1,_⟩ | ⟨b',e1,_,hb'⟩
   ·rw [e1] at e;cases e
   ·rw [e1] at e;injection e with e2;have:=aK hb';omega)
  obtain⟨k,hk,hkl,hk1⟩: ∃k,s1= .own k 0 (w.opn++[s]).length∧lo≤k∧H1[k]? =some (.cells 3 ((w.opn++[s]).map af)):=by
   rcases hs1.1 with⟨_,e⟩ | ⟨k,e,h1,h2⟩
   ·simp at e
   ·exact⟨k,by simpa using e,h1,by simpa using h2⟩
  have hbase: ∀h0:ae,h0.length≤lo→(∃g,h=h0++g)→ ∃g,H1=h0++g:=fun h0 hl hg=>hg1.base h0 hl (aF hg _);subst hk;have hb7:=at3 hb1;have hb0:=at3 hw.blk;simp only [iF] at hb7 hb0;simp [mV,au,-ak,-av,-ai,-AV.solid,hb7,hb0,hbl];have hal: ∀x∈w.opn++[s],x.point.length≤1000000:=by
   intro x hx;rcases List.mem_append.1 hx with hx | hx
   ·exact (hb.stops x hx).2
   ·rw [List.mem_singleton.1 hx];exact hs.2
  have wa:=I1 (gl:=gl) (w.opn++[s]) k w.before hW1 hk1 (by simp) (by have:=hb.opn;simp;omega) hb.before hal (by have:=hb.trips;omega) hof hp hlk hsy;have hlen:(w.opn++[s]).length=w.opn.length+1:=by simp
  rw [hlen] at wa;refine ax.any wa ?_;rintro v h2 ⟨rfl,⟨tr',hW⟩,hK⟩;have hsx:=hK.stops h.length [af s] hx1;have hs3:=at3 hsx;simp only [af] at hs3;have hb4:=at3 hW.blk;simp only [iF] at hb4;have htf:=hW.trips.rs.fix;have huf:=hW.out.rs.fix;have hne:b≠h.length:=by omega
  have hs5:=fun o:bU=>at3 (get_put (p:=o) hW.blk hsx hne);simp only [af] at hs5;have put1:=fun (la:Bytes)=>(hW.put (w':= { w with trips:=w.trips++[p9 t veh (qF m) (w.opn++[s]) w.before],opn:=[],last:=la }) .nil rfl rfl);have hLs: ∀H:ae,Ls 3 lo H .nil ([].map af):=fun H=>Ls.nil;have hB:=fun (o:bU) (h0:ae) (h1:h0.length≤lo) (x:ae) (h2:h=h0++x)=>dI (hK.base h0 h1 (hbase h0 h1 ⟨x,h2⟩)) (Nat.le_trans h1 hlo) o;by_cases c:s.pass=[]
  ·simp [mV,-aY,-ai,-AV.solid,c,hs3,hs5,hb4,htf,huf];refine⟨⟨_,_,_,by simpa [iF] using put1 w.last,by simpa [iF] using hLs _⟩,by simpa [iF] using hB _⟩
  ·simp [mV,-aY,-ai,-AV.solid,c,hs3,hs5,hb4,htf,huf];refine⟨⟨_,_,_,by simpa [iF] using put1 s.pass,by simpa [iF] using hLs _⟩,by simpa [iF] using hB _⟩
 case inr.inr.inr.inl=>
  rw [q];have hb5:=at3 hw1.blk;have hw2:=hw.more [.cells 3 [af s],.cells 3 [af s]];have hb6:=at3 hw2.blk;simp only [iF,af] at hb5 hb6;simp [mV,au,-ak,-av,-ai,-AV.solid,af,hb5,hb6,hof];have hop2:=hop.more [.cells 3 [af s],.cells 3 [af s]];refine⟨by decide,?_⟩;refine aO (lo:=lo) (n:=3) (es:=w.opn.map af) (ys:=[af s]) (by simpa [af] using hop2) (by simp;omega) (by simp [bF,af]) (by have:=hb.opn;simp;omega) ?_;intro s1 H1 hs1 hg1 hn1;have hg1:Grow lo (h++[.cells 3 [af s],.cells 3 [af s]]) op H1:=by simpa [af] using hg1
  have hb1:=hg1.keep b _ hw2.blk (qX hop2 hw2.blk (by decide));have hm1:=hg1.keep mb _ hw2.mp (jV hop2 hw2.mp);have ht1:=gp hw2.trips hop2 (by decide) hg1;have ho1:=gp hw2.out hop2 (by decide) hg1;have hW:u6 t veh mb m b lo H1 tr ou op w:=⟨hb1,hm1,ht1,ho1,hw.low,hw.lom⟩;have hsx:H1[h.length]? =some (.cells 3 [af s]):=hg1.keep h.length _ (by simp) (fun off len e=>by
   rcases hop.1 with⟨e1,_⟩ | ⟨b',e1,_,hb'⟩
   ·rw [e1] at e;cases e
   ·rw [e1] at e;injection e with e2;have:=aK hb';omega)
  have hs1f:=hs1.rs.fix;have hbase: ∀h0:ae,h0.length≤lo→(∃g,h=h0++g)→ ∃g,H1=h0++g:=fun h0 hl hg=>hg1.base h0 hl (aF hg _);have hb7:=at3 hb1;have hb0:=at3 hw.blk;have hs3:=at3 hsx;simp only [iF,af] at hb7 hb0 hs3;have htf:=hW.trips.rs.fix;have huf:=hW.out.rs.fix;have hne:b≠h.length:=by omega
  have hs5:=fun o:bU=>at3 (get_put (p:=o) hW.blk hsx hne);simp only [af] at hs5;have put1:=fun (la:Bytes)=>(hW.put (w':= { w with opn:=w.opn++[s],last:=la }) s1 rfl rfl);have hLs: ∀o:bU,Ls 3 lo (H1.set b o) s1 ((w.opn++[s]).map af):=fun o=>by
   have h5:Ls 3 lo H1 s1 ((w.opn++[s]).map af):=by simpa using hs1
   obtain⟨h6,h7⟩:=h5;refine⟨?_,h7⟩;rcases h6 with h6 | ⟨b',e,hl,hb'⟩
   ·exact .inl h6
   ·exact .inr ⟨b',e,hl,get_put hb1 hb' (Tk hb1 hb' (by decide))⟩
  have hB:=fun (o:bU) (h0:ae) (h1:h0.length≤lo) (x:ae) (h2:h=h0++x)=>dI (hbase h0 h1 ⟨x,h2⟩) (Nat.le_trans h1 hlo) o;by_cases c:s.pass=[]
  ·simp [mV,-aY,au,-ak,-av,-ai,-AV.solid,c,hb7,hb0,hbl,hs3,hs5,hs1f,htf,huf];refine⟨⟨_,_,_,by simpa [iF] using put1 w.last,by simpa [iF] using hLs _⟩,by simpa [iF] using hB _⟩
  ·simp [mV,-aY,au,-ak,-av,-ai,-AV.solid,c,hb7,hb0,hbl,hs3,hs5,hs1f,htf,huf];refine⟨⟨_,_,_,by simpa [iF] using put1 s.pass,by simpa [iF] using hLs _⟩,by simpa [iF] using hB _⟩
end Go.Proofs.YtkpioblbeiaefaaGreat
