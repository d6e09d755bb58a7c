/- Part 28 of the lemmas below the statements of this seat: TripG, SortTrip, MergeTrip, SymmATrip. -/
import Derived.Test.YtkpioblbeiaefaaGreatPb24
import Derived.Test.YtkpioblbeiaefaaGreatPb27
set_option linter.unusedSectionVars false
set_option linter.unusedVariables false
set_option linter.unusedSimpArgs false
set_option linter.unnecessarySimpa false
set_option maxRecDepth 100000
namespace Go.Proofs.YtkpioblbeiaefaaGreat
open Go Go.Abs Go.Toll
variable {gl : aR} {h : ak}
def su:Nat→Option ug:=fun id=>if id=8 then some (.last 13 [(4,9)]) else none
def Qt (t:bn)(l:List aC)(i:Nat):dG:=⟨[],fG t (l.take i),[],[],[]⟩
set_option maxHeartbeats 8000000 in
theorem FE (t:bn)(l:List aC)(veh:Bytes)(hok: ∀p∈l,p.Ok∧p.sources.length≤1000)(hn:l.length≤50)(hid: ∀p∈l,p.id.length≤1000000)(hpt: ∀p∈t.net.pts,p.name.length≤1000000)(hp:t.net.pts.length≤1000)(hl:t.net.lks.length≤1000)(hs:t.sys.length≤1000):
  af Tryz.prog gl 39 [.agg (av t),.ro (l.map aj),.str veh] h fun v h'=> ∃x y,v= .tup [x,y]∧Ls 5 h.length h' x ((bY t l veh).trips.map aH)∧Ls 2 h.length h' y ((bY t l veh).out.map aM)∧ ∃g,h'=h++g:=by
 refine af.bodyN su Tryz.f39 _ mixed Tryz.func39 rfl rfl (by simp [Tryz.ntmps39]) ?_;simp [su,-bA,av];refine aW.upN su mixed l.length (fun i fr H=>fr 1= .ro (l.map aj)∧fr 3= .ptr h.length 0 0∧fr 8= .ptr (h.length+2) 0 0∧fr 23= .ro (l.map aj)∧fr 24= .int .i64 l.length∧fr 25= .int .i64 i∧(∃g,H=(h++[.cells 3 [av t]])++g)∧
   (∃ou,xZ t veh (h.length+1) (jl l i) (h.length+2) (h.length+1) H .nil ou .nil (Qt t l i))∧ ∃x,fr 9=x∧Ls 8 (h.length+1) H x ((aX t (l.take i)).map aj)) 0 (by omega)
  ⟨by simp,by simp,by simp,by simp,by simp,by simp,⟨_,by simp [av];rfl⟩,⟨.nil,by simp [jO,Qt,fG],by simp [jl,sM],by simpa [Qt] using Ls.nil,by simpa [Qt,fG] using Ls.nil,by omega,by omega⟩,.nil,by simp,by simpa [aX] using Ls.nil⟩ ?_
 rintro i fr H hi ⟨e1,e3,e8,e23,e24,e25,⟨g,hH⟩,⟨ou,hW⟩,x,e9,hx⟩;have hxf:=hx.rs.fix;have hT:H[h.length]? =some (.cells 3 [av t]):=by rw [hH];simp
 have hT3:=at3 hT;have hB3:=at3 hW.blk;have hM3:=at3 hW.mp;simp only [av,jO] at hT3 hB3;rcases zN i l.length with hlt | hge
 ·obtain⟨p,hg,hg'⟩:=aN hlt;have ew:=aB (i:=i) (by omega);have hW1:=hW.more [.cells 8 [aj p]];have hB4:=at3 hW1.blk;have hM4:=at3 hW1.mp;simp only [dK,jO] at hB4 hM4;have hko:=Lj (m:=jl l i) p.id;have hset:=yf encZ' (jl l i) p.id p.cls;have hlH:h.length+1<H.length:=aK hW.mp;simp only [encZ'] at hset;simp [su,au,-ae,-ai,-ah,-AV.solid,-bC,e1,e3,e8,e9,e23,e24,e25,hlt,hg,hg',hT3,hB3,hM3,hB4,hM4,hxf,hko,hset];obtain⟨H1,hH1⟩: ∃H1:ak,H1=H.set (h.length+1) (.map (sM encZ' (jl l (i+1))))++[.cells 8 [aj p]]:=⟨_,rfl⟩;have hW2:xZ t veh (h.length+1) (jl l (i+1)) (h.length+2) (h.length+1) H1 .nil ou .nil (Qt t l i):=by rw [hH1];exact (hW.putM _).more _
  have hx2:Ls 8 (h.length+1) H1 x ((aX t (l.take i)).map aj):=by rw [hH1];exact (JE hx (lL hx hW.mp) _).more _
  have hT2:H1[h.length]? =some (.cells 3 [av t]):=by rw [hH1];refine aJ ?_ _;rw [zJ (by omega)];exact hT
  have hP2:H1[H.length]? =some (.cells 8 [aj p]):=by rw [hH1,zD (by simp)];simp
  have hbase2: ∃g,H1=(h++[.cells 3 [av t]])++g:=by rw [hH1];exact aF (cu ⟨g,hH⟩ (by simp) _) _
  have hH1':=hH1;rw [QL hg] at hH1';simp only [dK] at hH1';rw [←hH1'];refine⟨by decide,?_⟩;refine ay.pure _ (fun _=>by simpa [av] using jV (gl:=gl) t p.point hp hl hs) ?_;have hT4:=at3 hT2;have hP4:=at3 hP2;have hB5:=at3 hW2.blk;simp only [av,dK,jO] at hT4 hP4 hB5;have hL2:=aK hW2.blk;have huf:=hW2.out.rs.fix;have hft:=qU t (l.take i);have hkt:=iI t (l.take i);have htk:=List.length_take_le i l;by_cases hk:kindOf t p.point=0
  ·simp [su,au,-ae,-ai,-ah,-AV.solid,-bC,e1,e3,e8,e9,e23,e24,e25,hT4,hP4,hB5,hxf,huf,hk];refine⟨by decide,?_⟩;obtain⟨c3,hc3⟩: ∃c3:cZ,c3= .cells 2 [[.str p.id,.int .i64 3]]:=⟨_,rfl⟩;have hap:bu Tryz.prog (H1++[c3]) [33,33] 2 (.own H1.length 0 1) [aM ⟨p.id,3⟩]:=by rw [hc3];simp [bu,aM]
   rw [←hc3];have hW3:=hW2.more [c3];have hx3:=hx2.more [c3];have hO3:Ls 2 (h.length+1) (H1++[c3]) ou ((fG t (l.take i)).map aM):=hW3.out;have hP3:=aJ hP2 [c3];refine aG (lo:=h.length+1) (n:=2) (es:=(fG t (l.take i)).map aM) (ys:=[aM ⟨p.id,3⟩]) hO3 (by simp;omega) hap (by simp;omega) ?_;intro s1 H4 hs1 hg1 hn1;have hs1f:=hs1.rs.fix;have hb1:=hg1.keep _ _ hW3.blk (oM hO3 hW3.blk (by decide));have hm1:=hg1.keep _ _ hW3.mp (lL hO3 hW3.mp);have hx4:=fO hx3 hO3 (by decide) hg1;have hb13:=at3 hb1;have hbq:=at3 hW3.blk;simp only [jO] at hb13 hbq;obtain⟨g5,hg5⟩:=cu (hg1.base (h++[.cells 3 [av t]]) (by simp) (aF hbase2 [c3])) (b:=h.length+2) (by simp) (.cells 10 [jO t veh (h.length+1) .nil s1 .nil [] []]);have e4:fG t (l.take (i+1))=fG t (l.take i)++[⟨p.id,3⟩]:=by rw [xk hg,if_pos hk]
   have e5:aX t (l.take (i+1))=aX t (l.take i):=by rw [uP hg,if_pos hk]
   have hsx:Ls 2 (h.length+1) H4 s1 ((fG t (l.take (i+1))).map aM):=by rw [e4];simpa using hs1
   simp only [List.cons_append,List.nil_append,zK,av,jO] at hg5;simp [su,au,-ae,-ai,-ah,-AV.solid,-bC,-List.map_take,e1,e3,e8,e9,e23,e24,e25,hs1f,hb13,hbq,Qt,ew];refine⟨i+1,by omega,by omega,by omega,⟨g5,by simpa [Qt] using hg5⟩,⟨s1,?_⟩,?_⟩
   ·refine⟨?_,get_put hb1 hm1 (pV hb1 hm1),Ls.nil,gM hsx hb1 (by decide) _,by omega,by omega⟩;rw [zI hb13.2.1];simp [jO,Qt]
   ·rw [e5];exact gM hx4 hb1 (by decide) _
  ·simp [su,au,-ae,-ai,-ah,-AV.solid,-bC,e1,e3,e8,e9,e23,e24,e25,hT4,hP4,hB5,hxf,hk];have hW3:=hW2.more [.cells 8 [aj p]];have hx3:=hx2.more [.cells 8 [aj p]];refine aG (lo:=h.length+1) (n:=8) (es:=(aX t (l.take i)).map aj) (ys:=[aj p]) (by simpa using hx3) (by simp;omega) (by simp [bu]) (by simp;omega) ?_;intro s1 H4 hs1 hg1 hn1;have hg1:Grow (h.length+1) (H1++[.cells 8 [aj p]]) x H4:=by simpa using hg1
   have hs1f:=hs1.rs.fix;have hW4:=hW3.grow hx3 (by decide) hg1;obtain⟨g5,hg5⟩:=hg1.base (h++[.cells 3 [av t]]) (by simp) (aF hbase2 _);simp only [List.cons_append,List.nil_append,zK,av] at hg5;have e4:Qt t l (i+1)=Qt t l i:=by unfold Qt;rw [xk hg,if_neg hk]
   have e5:aX t (l.take (i+1))=aX t (l.take i)++[p]:=by rw [uP hg,if_neg hk]
   simp [su,au,-ae,-ai,-ah,-AV.solid,-bC,-List.map_take,e1,e3,e8,e9,e23,e24,e25,hs1f,ew];exact⟨i+1,by omega,by omega,by omega,⟨g5,hg5⟩,⟨ou,by rw [e4];exact hW4⟩,by rw [e5];simpa using hs1⟩
 ·obtain rfl:i=l.length:=by omega
  rw [List.take_length] at hx;have e4:Qt t l l.length=⟨[],fG t l,[],[],[]⟩:=by simp [Qt]
  rw [e4] at hW;have hkl:=iI t l;obtain⟨ks,hkf,hkg,hkn⟩:=Go.Toll.Ls.lendG hx;have hW1:=hW.grow hx (by decide) hkg;have hsp:=KH (gl:=gl) (h:=killL H ks) t (aX t l) (fun p h=>hok p (oJ h)) (by omega) hp hl hs;have hsp1:af Tryz.prog gl 75 [.agg (av t),x] H fun v h'=>v=splitV (aI t).net (aX t l)∧h'=killL H ks:=af.lend ks (.cons (.same _) (.cons hkf .nil)) hsp;simp [su,au,-ae,-ai,-ah,-AV.solid,-bC,e1,e3,e8,e9,e23,e24,e25,hT3,hB3,hxf];refine ay.any (by simpa [av] using hsp1) ?_;rintro v h1 ⟨rfl,rfl⟩;have hT1:=hkg.keep _ _ hT (fun off len e=>by
   rcases hx.1 with⟨e1,_⟩ | ⟨b',e1,hl',hb'⟩
   ·rw [e1] at e;cases e
   ·rw [e1] at e;injection e with e2;omega)
  have hT4:=at3 hT1;have hB4:=at3 hW1.blk;have huf:=hW1.out.rs.fix;simp only [av,jO] at hT4 hB4;have hft:=qU t l;have hspv:splitV (aI t).net (aX t l)= .tup [.ro ((fD (aI t).net (aX t l)).map aj),.ro ((eZ (aI t).net (aX t l)).map aM)]:=rfl;have hB:bY t l veh=Ca t veh (qd (jl l l.length)) (dQ t l (eZ (aI t).net (aX t l))) (fV (aI t).net (fD (aI t).net (aX t l))).1:=rfl;have hOl:(eZ (aI t).net (aX t l)).length≤50:=by have:=uV (OC (aI t).net (aX t l)) (aX t l) (aX t l).length;show (kZ _ _ _).length≤50;omega
  have hKl:(fD (aI t).net (aX t l)).length≤50:=by have:=rW (OC (aI t).net (aX t l)) (aX t l) (aX t l).length;show (uK _ _ _).length≤50;omega
  have hKm: ∀p∈fD (aI t).net (aX t l),p.id.length≤1000000:=fun p hp=>hid p (oJ (nW hp));rw [hspv];rw [hB];clear hspv hB hsp hsp1;generalize eZ (aI t).net (aX t l)=O at*;generalize fD (aI t).net (aX t l)=K at*;generalize killL H ks=H0 at*;simp [su,au,-ae,-ai,-ah,-AV.solid,-bC,e1,e3,e8,e9,e23,e24,e25,hT4,hB4,huf];refine aG (lo:=h.length+1) (n:=2) (es:=(fG t l).map aM) (ys:=O.map aM) hW1.out (by have:=aK hT1;omega) (bL (Rs.ro (fun e he=>by obtain⟨y,_,rfl⟩:=List.mem_map.1 he;rfl)) (by simp) (by simp) (by simp)) (by simp;omega) ?_;intro s1 H4 hs1 hg1 hn1;have hO3:Ls 2 (h.length+1) H0 ou ((fG t l).map aM):=hW1.out;have hs1f:=hs1.rs.fix;have hb1:=hg1.keep _ _ hW1.blk (oM hO3 hW1.blk (by decide));have hm1:=hg1.keep _ _ hW1.mp (lL hO3 hW1.mp);have hT5:=hg1.keep _ _ hT1 (oM hO3 hT1 (by decide));have hb13:=at3 hb1;simp only [jO] at hb13;have hbase3: ∃g,H0=(h++[.cells 3 [av t]])++g:=hkg.base (h++[.cells 3 [av t]]) (by simp) ⟨g,hH⟩;have hbase4:=hg1.base (h++[.cells 3 [av t]]) (by simp) hbase3;obtain⟨H5,hH5⟩: ∃H5:ak,H5=H4.set (h.length+2) (.cells 10 [jO t veh (h.length+1) .nil s1 .nil [] []]):=⟨_,rfl⟩;have hW5:xZ t veh (h.length+1) (jl l l.length) (h.length+2) (h.length+1) H5 .nil s1 .nil (dQ t l O):=by
   rw [hH5];refine⟨zI hb13.2.1,get_put hb1 hm1 (pV hb1 hm1),Ls.nil,?_,by omega,by omega⟩;have:Ls 2 (h.length+1) H4 s1 ((fG t l++O).map aM):=by simpa using hs1
   exact gM this hb1 (by decide) _
  have hT6:H5[h.length]? =some (.cells 3 [av t]):=by rw [hH5];exact get_put hb1 hT5 (by omega)
  have hbase5: ∃g,H5=(h++[.cells 3 [av t]])++g:=by rw [hH5];exact cu hbase4 (by simp) _
  have hT7:=at3 hT6;have hT8:=at3 hT5;have hB6:=at3 hW5.blk;simp only [jO] at hH5 hB6;simp only [av] at hT7 hT8;simp [su,au,-ae,-ai,-ah,-AV.solid,-bC,e1,e3,e8,e9,e23,e24,e25,hs1f,hb13,hT8];rw [←hH5];refine ay.pure _ (fun _=>by simpa [av] using K9 t K hp hl hs (by omega)) ?_;obtain⟨hS1,hS2⟩:=oU (PL t) (l:=K);have hSe:(fV (aI t).net K).2≠0→(fV (aI t).net K).1=[]:=Ug;unfold Au;generalize (fV (aI t).net K).1=S at*;generalize (fV (aI t).net K).2=E at*;have hvl:=eQ t;have hSp: ∀s∈S,((0≤s.time∧s.time<68719476736)∧s.point.length≤1000000)∧s.pass.length≤1000000:=fun s hs=>by
   have h1:=hS1 s hs;refine⟨⟨h1.time,?_⟩,?_⟩
   ·have h2:=(vN _ _).1 h1.point;obtain⟨q,hq,e⟩:=List.mem_map.1 h2;rw [←e];exact hpt q (OT hq)
   ·rcases h1.pass with e | ⟨q,hq,e⟩
    ·rw [e];simp
    ·rw [e];exact hKm q hq
  have hN0:VB 0 S (dQ t l O):=⟨by simp [dQ],by simp [dQ];omega,by simp [dQ],by simp [dQ],by simp [dQ],by simp [dQ]⟩;by_cases hE:E=0
  ·simp [su,au,-ae,-ai,-ah,-AV.solid,-bC,e1,e3,e8,e9,e23,e24,e25,hs1f,hE];refine aW.upN su mixed S.length (fun j fr H=>fr 3= .ptr h.length 0 0∧fr 8= .ptr (h.length+2) 0 0∧fr 82= .ro (S.map aa)∧fr 83= .int .i64 S.length∧fr 84= .int .i64 j∧(∃g,H=(h++[.cells 3 [av t]])++g)∧
     ∃tr ou op,xZ t veh (h.length+1) (jl l l.length) (h.length+2) (h.length+1) H tr ou op ((S.take j).foldl (dA t veh (qd (jl l l.length))) (dQ t l O))∧Ls 3 (h.length+1) H op (((S.take j).foldl (dA t veh (qd (jl l l.length))) (dQ t l O)).opn.map aa)) 0 (by omega)
    ⟨by simp [e3],by simp [e8],by simp,by simp,by simp,hbase5,.nil,s1,.nil,by simpa using hW5,by simpa [dQ] using Ls.nil⟩ ?_
   clear hH5 hH hT hT1 hT3 hT4 hT5 hT6 hT7 hT8 hB3 hM3 hB4 hB6 hb1 hb13 hbase3 hbase4 hs1 hg1 hs1f hW hW1 hx hxf e1 e9 e23 e24 e25 hm1 hO3 hkf hkg hkn;rintro j fr H hj ⟨e3,e8,e82,e83,e84,hB,tr,ou,op,hW,hop⟩;have hNj:=FK hN0 (fun s hs=>(hSp s hs).2) j hj (t:=t) (veh:=veh) (cls:=qd (jl l l.length));generalize hw:(S.take j).foldl (dA t veh (qd (jl l l.length))) (dQ t l O)=w at*;have hWB:WkB w:=⟨by have:=hNj.trips;omega,by have:=hNj.out;omega,by have:=hNj.opn;omega,hNj.before,hNj.last,fun x hx=>(hSp x (hNj.all x hx)).1⟩;rcases zN j S.length with hlt | hge
   ·obtain⟨s,hs',hs''⟩:=aN hlt;have ew:=aB (i:=j) (by omega);have hW1:=hW.more [.cells 3 [aa s]];have hop1:=hop.more [.cells 3 [aa s]];have hst:=RA (gl:=gl) s hW1 hop1 hWB (hSp s (zF hs')).1 hp hl hs;simp [su,au,-ae,-ai,-ah,-AV.solid,-bC,e3,e8,e82,e83,e84,hlt,hs',hs'',aa];refine ay.any (by simpa [aa] using hst) ?_;rintro v H1 ⟨rfl,⟨tr',ou',op',hW2,hop2⟩,hbs⟩;obtain⟨g,hg⟩:=hB;obtain⟨g1,hg1⟩:=hbs (h++[.cells 3 [av t]]) (by simp) (g++[.cells 3 [aa s]]) (by rw [hg];simp [aa]);have hfs:(S.take (j+1)).foldl (dA t veh (qd (jl l l.length))) (dQ t l O)=dA t veh (qd (jl l l.length)) w s:=by rw [DN hs',hw]
    simp [su,au,-ae,-ai,-ah,-AV.solid,-bC,-List.map_take,e3,e8,e82,e83,e84,ew];refine⟨j+1,by omega,by omega,by omega,⟨g1,by simpa using hg1⟩,tr',ou',op',?_⟩;rw [hfs];exact⟨hW2,hop2⟩
   ·obtain rfl:j=S.length:=by omega
    rw [List.take_length] at hw;simp [su,au,-ae,-ai,-ah,-AV.solid,-bC,e3,e8,e82,e83,e84];refine ay.any (wu hW hop (by have:=hWB.opn;omega) (by have:=hWB.out;omega)) ?_;rintro v H6 ⟨rfl,⟨ou',hW6⟩,hK6⟩;obtain⟨g6,hg6⟩:=hK6.base (h++[.cells 3 [av t]]) (by simp) hB;have hB7:=at3 hW6.blk;have hu7:=hW6.out.rs.fix;have ht7:=hW6.trips.rs.fix;simp only [jO] at hB7;simp [su,au,-ae,-ai,-ah,-AV.solid,-bC,e3,e8,e82,e83,e84,hB7,hu7,ht7];refine⟨by decide,tr,ou',⟨rfl,rfl⟩,?_,?_,⟨_,by rw [hg6,zK]⟩⟩
    ·unfold Ca;rw [hw];exact kV hW6.trips (by omega)
    ·unfold Ca;rw [hw];exact kV hW6.out (by omega)
  ·obtain rfl:=hSe hE;simp [su,au,-ae,-ai,-ah,-AV.solid,-bC,e1,e3,e8,e9,e23,e24,e25,hs1f,hE];refine ay.any (wu hW5 (op:= .nil) (by simpa [dQ] using Ls.nil) (by simp [dQ]) (by simp [dQ];omega)) ?_;rintro v H6 ⟨rfl,⟨ou',hW6⟩,hK6⟩;have hbase6:=hK6.base (h++[.cells 3 [av t]]) (by simp) hbase5;have hB7:=at3 hW6.blk;have hu7:=hW6.out.rs.fix;have ht7:=hW6.trips.rs.fix;simp only [jO] at hB7;simp [su,au,-ae,-ai,-ah,-AV.solid,-bC,e1,e3,e8,e9,e23,e24,e25,hs1f,hE,hB7,hu7,ht7];obtain⟨g6,hg6⟩:=hbase6;exact⟨by decide,.nil,ou',⟨rfl,rfl⟩,kV hW6.trips (by omega),kV hW6.out (by omega),⟨_,by rw [hg6,zK]⟩⟩
theorem xw (b:Nat)(pre seg post:List (List AV))(hb:b<h.length)(hn: ∀e∈pre++seg++post,e.length=5)(hl:(pre++seg++post).length≤1000000)(f:FuncId)(caps:List AV)(c:List AV→List AV→Int)
  (hc: ∀x∈seg,∀y∈seg,∀o,af Tryz.prog gl f (.agg x:: .agg y::caps) (h.set b o) fun v h'=>v= .int .i64 (c x y)∧h'=h.set b o):
  af Tryz.prog gl 135 [.own b 0 (pre++seg++post).length,.int .i64 pre.length,.int .i64 (pre.length+seg.length:Nat),.fn (.func f) [] caps] (h.set b (.cells 5 (pre++seg++post)))
   fun v h'=>v= .tup []∧h'=h.set b (.cells 5 (pre++aT (fun x y=>decide (c x y<0)) seg++post)):=by
 refine af.body Tryz.f135 _ mixed Tryz.func135 rfl rfl (by simp [Tryz.ntmps135]) ?_;have hl':pre.length+seg.length+post.length≤1000000:=by simpa [Nat.add_assoc] using hl
 have ew:=aB (i:=pre.length) (by omega);simp [ew];refine aW.up mixed (seg.length+1) (fun i fr h'=>fr 0= .own b 0 (pre++seg++post).length∧fr 1= .int .i64 pre.length∧fr 2= .int .i64 (pre.length+seg.length:Nat)∧fr 3= .fn (.func f) [] caps∧fr 8= .int .i64 (pre.length+i:Nat)∧1≤i∧
  h'=h.set b (.cells 5 (pre++(aT (fun x y=>decide (c x y<0)) (seg.take i)++seg.drop i)++post))) 1 (by omega) ⟨by simp,by simp,by simp,by simp,by simp,by omega,?_⟩ ?_
 ·cases seg with
  | nil=>simp [aT]
  | cons x seg=>simp [aT,gV,gz]
 rintro i fr h' hi ⟨e0,e1,e2,e3,e8,h1i,rfl⟩;rcases zN i seg.length with hlt | hge
 ·obtain⟨x,hg,hg'⟩:=aN hlt;have hlt2:((pre.length:Int)+i)<pre.length+seg.length:=by omega
  simp [e0,e1,e2,e3,e8,hlt,hlt2];have hil:(aT (fun x y=>decide (c x y<0)) (seg.take i)).length=i:=by rw [bI];simp;omega
  generalize hL:aT (fun x y=>decide (c x y<0)) (seg.take i)=L at hil;refine aW.down mixed (fun j fr h'=>fr 0= .own b 0 (pre++seg++post).length∧fr 1= .int .i64 pre.length∧fr 2= .int .i64 (pre.length+seg.length:Nat)∧fr 3= .fn (.func f) [] caps∧fr 8= .int .i64 (pre.length+i:Nat)∧fr 9= .int .i64 (pre.length+j:Nat)∧j≤i∧
   gz (fun x y=>decide (c x y<0)) x L i=gz (fun x y=>decide (c x y<0)) x L j∧
   ∃all,h'=h.set b (.cells 5 all)∧all=sinkB pre L (seg.drop (i+1)++post) x j) i ⟨by simp [e0],by simp [e1],by simp [e2],by simp [e3],by simp [e8],by simp,by omega,rfl,_,rfl,?_⟩ ?_
  ·rw [bF hg];simp [sinkB,←hil]
  rintro j fr h' ⟨e0,e1,e2,e3,e8,e9,hj,hK,all,rfl,hall⟩;have hal:all.length=pre.length+seg.length+post.length:=by rw [hall,nR];simp;omega
  rcases Nat.eq_zero_or_pos j with rfl | hpos
  ·simp [e0,e1,e2,e3,e8,e9,hb];refine⟨by decide,ay.pure (.int .i64 0) (fun hg=>by cases hg) ?_⟩;have ewi:=aB (i:=pre.length+i) (by omega);simp at ewi;simp [e0,e1,e2,e3,e8,e9,ewi];refine⟨i+1,by omega,by omega,by simp;omega,?_⟩;rw [gG _ hg,hL,hall,gV,hil,hK];simp [sinkB,gz]
  obtain⟨k,rfl⟩: ∃k,j=k+1:=⟨j - 1,by omega⟩;have hgx:=J7 (pre:=pre) (l:=L) (post:=seg.drop (i+1)++post) (x:=x) (j:=k+1) (by omega);have hgy:=J8 (pre:=pre) (l:=L) (post:=seg.drop (i+1)++post) (x:=x) (j:=k) (by omega);obtain⟨y,hy,hy'⟩:=aN (l:=L) (i:=k) (by omega);rw [←hall] at hgx hgy;rw [hy] at hgy;have e9':fr 9= .int .i64 (pre.length+k+1:Nat):=e9;have hgx':all[pre.length+k+1]? =some x:=hgx;have hsw:=xP (pre:=pre) (post:=seg.drop (i+1)++post) (x:=x) hy;rw [←hall] at hsw;have hsw':(all.set (pre.length+k+1) y).set (pre.length+k) x=sinkB pre L (seg.drop (i+1)++post) x k:=hsw;generalize hp:pre.length+k=p at e9' hgx' hgy hsw';clear hgx e9 hsw;have p1:((pre.length:Int))<p+1:=by omega
  have p2:p+1<all.length:=by omega
  have wp:IntKind.i64.wrap (p:Int)=p:=aD (by omega) (by omega);have hxO:=hn x (by simp [zF hg]);have hx5:x.length=5:=hxO;have hys:y∈seg:=List.mem_of_mem_take ((dW _).1 (hL▸zF hy));have hxs:x∈seg:=zF hg;have hyO:=hn y (by simp [hys]);have hy5:y.length=5:=hyO;simp [e0,e1,e2,e3,e8,e9',hgx',hgy,p1,hb,wp];refine⟨by decide,⟨by omega,by omega,by omega⟩,⟨by omega,by omega⟩,⟨by omega,by omega⟩,⟨by omega,by omega⟩,?_⟩;rw [zG (by omega),zG (by omega)];refine ay.pure _ (fun _=>hc x hxs y hys _) ?_;have tx:x.take 5=x:=zG (by omega);have ty:y.take 5=y:=zG (by omega);have dx:x.drop 5=[]:=zH (by omega);have dy:y.drop 5=[]:=zH (by omega);have ewi:=aB (i:=pre.length+i) (by omega);simp at ewi;simp [e0,e1,e2,e3,e8,e9',hgx',hgy,p1,hb,wp,hx5,hy5,tx,ty,dx,dy,hsw',ewi];refine⟨fun hlt0=>⟨by decide,?_⟩,fun hge0=>⟨i+1,by omega,by omega,by simp;omega,by omega,?_⟩⟩
  ·repeat refine And.intro (by omega) ?_
   refine⟨k,by omega,by omega,by omega,?_,rfl⟩;rw [hK,gz,hy];simp [hlt0]
  ·have hk2:gz (fun x y=>decide (c x y<0)) x L i=k+1:=by
    rw [hK,gz,hy];simp [show ¬c x y<0 by omega]
   rw [gG _ hg,hL,hall,gV,hil,hk2];simp [sinkB]
 ·have hge2: ¬((pre.length:Int)+i)<pre.length+seg.length:=by omega
  simp [e0,e1,e2,e3,e8,hge2];rw [zG (by omega),zH (by omega)];rfl
theorem rY (f:FuncId)(caps:List AV):
  af Tryz.prog gl 135 [.nil,.int .i64 0,.int .i64 0,.fn (.func f) [] caps] h fun v h'=>v= .tup []∧h'=h:=by
 refine af.body Tryz.f135 _ mixed Tryz.func135 rfl rfl (by simp [Tryz.ntmps135]) ?_;simp;refine aW.up mixed 0 (fun i fr h'=>fr 2= .int .i64 0∧fr 8= .int .i64 (IntKind.i64.wrap 1)∧h'=h) 0 (by omega) ⟨by simp,by simp,rfl⟩ ?_;rintro i fr h' hi ⟨e2,e8,rfl⟩;simp [e2,e8,aD]
theorem BZ (f:FuncId)(caps:List AV):
  af Tryz.prog gl 102 [.nil,.int .i64 0,.fn (.func f) [] caps] h fun v h'=>v= .tup []∧h'=h:=by
 refine af.body Tryz.f102 _ mixed Tryz.func102 rfl rfl (by simp [Tryz.ntmps102]) ?_;simp;refine aW.up mixed 0 (fun i fr h'=>fr 0= .nil∧fr 1= .int .i64 0∧fr 2= .fn (.func f) [] caps∧fr 6= .int .i64 20∧fr 7= .int .i64 0∧fr 8= .int .i64 20∧h'=h) 0 (by omega) ⟨by simp,by simp,by simp,by simp,by simp,by simp,rfl⟩ ?_;rintro i fr h' hi ⟨e0,e1,e2,e6,e7,e8,rfl⟩;simp [e0,e1,e2,e6,e7,e8];refine ay.pure _ (fun _=>rY f caps) ?_;simp [e0,e1,e2,e6,e7,e8];refine aW.up mixed 0 (fun i fr h''=>fr 1= .int .i64 0∧fr 6= .int .i64 20∧h''=h') 0 (by omega) ⟨by simp [e1],by simp [e6],rfl⟩ ?_;rintro i fr h' hi ⟨e1,e6,rfl⟩;simp [e1,e6]
theorem wy (f:FuncId)(caps:List AV):
  af Tryz.prog gl 68 [.nil,.fn (.func f) [] caps] h fun v h'=>v= .tup []∧h'=h:=by
 refine af.body Tryz.f68 _ mixed Tryz.func68 rfl rfl (by simp [Tryz.ntmps68]) ?_;simp;refine ay.pure _ (fun _=>BZ f caps) ?_;simp
set_option maxHeartbeats 1000000 in
theorem oV (b:Nat)(P U M V Q:List (List AV))(p q n N:Nat)(hp:P.length=p)(hq:p+U.length+M.length=q)(hU:U.length=n)(hV:V.length=n)(hN:N=q+V.length+Q.length)(hl:N≤1000000)
  (hb:b<h.length) (hn: ∀e∈P++(U++(M++(V++Q))),e.length=5) (f:FuncId) (caps:List AV):
  af Tryz.prog gl 181 [.own b 0 N,.int .i64 p,.int .i64 q,.int .i64 n,.fn (.func f) [] caps] (h.set b (.cells 5 (P++(U++(M++(V++Q))))))
   fun v h'=>v= .tup []∧h'=h.set b (.cells 5 (P++(V++(M++(U++Q))))):=by
 refine af.body Tryz.f181 _ mixed Tryz.func181 rfl rfl (by simp [Tryz.ntmps181]) ?_;simp;refine aW.up mixed n (fun i fr h'=>fr 0= .own b 0 N∧fr 1= .int .i64 p∧fr 2= .int .i64 q∧fr 3= .int .i64 n∧fr 10= .int .i64 i∧
  ∃all,h'=h.set b (.cells 5 all)∧all=(P++V.take i)++(U.drop i++(M++(U.take i++(V.drop i++Q))))) 0 (by omega) ⟨by simp,by simp,by simp,by simp,by simp,_,rfl,by simp⟩ ?_
 rintro i fr h' hi ⟨e0,e1,e2,e3,e10,all,rfl,hall⟩;rcases zN i n with hlt | hge
 ·obtain⟨u,hu,hu'⟩:=aN (l:=U) (i:=i) (by omega);obtain⟨v,hv,hv'⟩:=aN (l:=V) (i:=i) (by omega);have hall':all=(P++V.take i)++u::((U.drop (i+1)++(M++U.take i))++v::(V.drop (i+1)++Q)):=by
   rw [hall,bF hu,bF hv];simp
  have hA:(P++V.take i).length=p+i:=by simp;omega
  have hB:(P++V.take i).length+1+(U.drop (i+1)++(M++U.take i)).length=q+i:=by simp;omega
  have g1:=ZG (P++V.take i) (U.drop (i+1)++(M++U.take i)) (V.drop (i+1)++Q) u v;have g2:=at2 (P++V.take i) (U.drop (i+1)++(M++U.take i)) (V.drop (i+1)++Q) u v;have g3:=set2 (P++V.take i) (U.drop (i+1)++(M++U.take i)) (V.drop (i+1)++Q) u v;rw [←hall',hA] at g1;rw [hB,←hall'] at g2;rw [hB,←hall',hA] at g3;have hal:all.length=N:=by rw [hall'];simp;omega
  have huO:=hn u (by simp [zF hu]);have hu5:u.length=5:=huO;have hvO:=hn v (by simp [zF hv]);have hv5:v.length=5:=hvO;have w1:IntKind.i64.wrap ((p:Int)+i)=((p+i:Nat):Int):=by rw [aD (by omega) (by omega)];omega
  have w2:IntKind.i64.wrap ((q:Int)+i)=((q+i:Nat):Int):=by rw [aD (by omega) (by omega)];omega
  have ew:=aB (i:=i) (by omega);have hnx:(all.set (p+i) v).set (q+i) u=(P++V.take (i+1))++(U.drop (i+1)++(M++(U.take (i+1)++(V.drop (i+1)++Q)))):=by
   rw [g3,zM,zM,hu,hv];simp
  clear g3 hall' hall hA hB;have q1:p+i<q+i:=by omega
  have q2:q+i<N:=by omega
  generalize hp':p+i=pi at*;generalize hq':q+i=qi at*;have q3: ¬pi=qi:=by omega
  have q4: ¬qi=pi:=by omega
  have tu:u.take 5=u:=zG (by omega);have tv:v.take 5=v:=zG (by omega);have du:u.drop 5=[]:=zH (by omega);have dv:v.drop 5=[]:=zH (by omega);simp [e0,e1,e2,e3,e10,hlt,w1,w2,g1,g2,hb,hu5,hv5,tu,tv,du,dv,hal,ew,hnx,q3,q4];exact⟨by decide,by omega,by omega,by omega,i+1,by omega,by omega,by omega,rfl⟩
 ·simp [e0,e1,e2,e3,e10,Nat.not_lt.2 hge,hall];rw [zG (by omega),zH (by omega),zH (by omega),zG (by omega)];simp
set_option maxHeartbeats 1000000 in
theorem Mj (b:Nat)(P U V Q:List (List AV))(p m z N:Nat)(hp:P.length=p)(hm:p+U.length=m)(hz:m+V.length=z)(hN:N=z+Q.length)(hl:N≤1000000)(hU:0<U.length)(hV:0<V.length)
  (hb:b<h.length) (hn: ∀e∈P++(U++(V++Q)),e.length=5) (f:FuncId) (caps:List AV):
  af Tryz.prog gl 166 [.own b 0 N,.int .i64 p,.int .i64 m,.int .i64 z,.fn (.func f) [] caps] (h.set b (.cells 5 (P++(U++(V++Q)))))
   fun v h'=>v= .tup []∧h'=h.set b (.cells 5 (P++(V++(U++Q)))):=by
 refine af.body Tryz.f166 _ mixed Tryz.func166 rfl rfl (by simp [Tryz.ntmps166]) ?_;have w1:IntKind.i64.wrap ((m:Int) - p)=U.length:=by rw [aD (by omega) (by omega)];omega
 have w2:IntKind.i64.wrap ((z:Int) - m)=V.length:=by rw [aD (by omega) (by omega)];omega
 simp [w1,w2];refine aW.down mixed (fun k fr h'=> ∃(P' U' V' Q':List (List AV)) (u v:Nat),U'.length=u∧V'.length=v∧fr 0= .own b 0 N∧fr 2= .int .i64 m∧fr 4= .fn (.func f) [] caps∧fr 10= .int .i64 u∧fr 11= .int .i64 v∧
  P'.length+u=m∧0<u∧0<v∧k=u+v∧N=m+v+Q'.length∧(∀e∈P'++(U'++(V'++Q')),e.length=5)∧
  h'=h.set b (.cells 5 (P'++(U'++(V'++Q'))))∧P++(V++(U++Q))=P'++(V'++(U'++Q'))) (U.length+V.length) ⟨P,U,V,Q,_,_,rfl,rfl,by simp,by simp,by simp,by simp,by simp,by omega,hU,hV,rfl,by omega,hn,rfl,rfl⟩ ?_
 rintro k fr h' ⟨P',U',V',Q',u,v,hu,hv,e0,e2,e4,e10,e11,hm',hU',hV',rfl,hN',hn',rfl,hT⟩;generalize hp':P'.length=p' at*;have w3:IntKind.i64.wrap ((m:Int) - u)=p':=by rw [aD (by omega) (by omega)];omega
 clear w1 w2;rcases Nat.lt_trichotomy u v with hlt | heq | hgt
 ·have n1: ¬(u:Int)=v:=by omega
  have n2: ¬v<u:=by omega
  have eV:V'=V'.take (v - u)++V'.drop (v - u):=(List.take_append_drop _ _).symm;have l1:(V'.take (v - u)).length=v - u:=by simp;omega
  have l2:(V'.drop (v - u)).length=u:=by simp;omega
  generalize V'.take (v - u)=V1 at*;generalize V'.drop (v - u)=V2 at*;subst eV;have w4:IntKind.i64.wrap (IntKind.i64.wrap ((m:Int)+v) - u)=(m+v - u:Nat):=by
   rw [aD (n:=(m:Int)+v) (by omega) (by omega),aD (by omega) (by omega)];omega
  have w5:IntKind.i64.wrap ((v:Int) - u)=(v - u:Nat):=by rw [aD (by omega) (by omega)];omega
  have hmv:p'+U'.length+V1.length=m+v - u:=by omega
  have hNv:N=m+v - u+V2.length+Q'.length:=by omega
  generalize m+v - u=mv at*;generalize v - u=vu at*;simp [e0,e2,e4,e10,e11,n1,n2,w3,w4,w5];have:=oV (gl:=gl) (h:=h) b P' U' V1 V2 Q' p' mv u N hp' hmv hu l2 hNv hl hb (by simpa using hn') f caps;refine ay.any this ?_;rintro v' h' ⟨rfl,rfl⟩;simp [e0,e2,e4,e10,e11,n1,n2,w3,w4,w5];refine⟨u+vu,by omega,P',V2,by omega,V1,by omega,by omega,by omega,by omega,by omega,U'++Q',by simp;omega,?_,by simp,by rw [hT];simp⟩;intro e he;refine hn' e ?_;simp at he ⊢;rcases he with h | h | h | h | h <;> simp [h]
 ·subst heq;simp [e0,e2,e4,e10,e11,w3];have:=oV (gl:=gl) (h:=h) b P' U' [] V' Q' p' m u N hp' (by simp;omega) hu hv (by omega) hl hb (by simpa using hn') f caps;refine ay.any this ?_;rintro v h' ⟨rfl,rfl⟩;simp [hT]
 ·have n1: ¬(u:Int)=v:=by omega
  have eU:U'=U'.take v++U'.drop v:=(List.take_append_drop _ _).symm;have l1:(U'.take v).length=v:=by simp;omega
  have l2:(U'.drop v).length=u - v:=by simp;omega
  generalize U'.take v=U1 at*;generalize U'.drop v=U2 at*;subst eU;have w5:IntKind.i64.wrap ((u:Int) - v)=(u - v:Nat):=by rw [aD (by omega) (by omega)];omega
  generalize huv:u - v=uv at*;simp [e0,e2,e4,e10,e11,n1,hgt,w3,w5];have:=oV (gl:=gl) (h:=h) b P' U1 U2 V' Q' p' m v N hp' (by omega) l1 hv (by omega) hl hb (by simpa using hn') f caps;refine ay.any this ?_;rintro v' h' ⟨rfl,rfl⟩;simp [e0,e2,e4,e10,e11,n1,w3,w5];refine⟨uv+v,by omega,P'++V',U2,by omega,U1,by omega,by simp;omega,by omega,by omega,by omega,Q',by omega,?_,by simp,by rw [hT];simp⟩;intro e he;refine hn' e ?_;simp at he ⊢;rcases he with (h | h) | h | h | h <;> simp [h]
set_option maxHeartbeats 4000000 in
theorem Fh (b:Nat)(hb:b<h.length)(N:Nat)(hl:N≤1000000)(S:List (List AV))(hn: ∀e∈S,e.length=5)(f:FuncId)(caps:List AV)(c:List AV→List AV→Int)(o:SWO (fun x y=>decide (c x y<0)))
  (hc: ∀x∈S,∀y∈S,∀o,af Tryz.prog gl f (.agg x:: .agg y::caps) (h.set b o) fun v h'=>v= .int .i64 (c x y)∧h'=h.set b o): ∀(P X Y Q:List (List AV)) (a m z:Nat),X.length=1→0<Y.length→
  qz (fun x y=>decide (c x y<0)) X→qz (fun x y=>decide (c x y<0)) Y→P.length=a→a+X.length=m→m+Y.length=z→N=z+Q.length→(∀e∈P++(X++(Y++Q)),e∈S)→
  af Tryz.prog gl 136 [.own b 0 N,.int .i64 a,.int .i64 m,.int .i64 z,.fn (.func f) [] caps] (h.set b (.cells 5 (P++(X++(Y++Q)))))
   fun v h'=>v= .tup []∧h'=h.set b (.cells 5 (P++(aT (fun x y=>decide (c x y<0)) (X++Y)++Q))):=by
 intro P X Y Q a m z hX1 hY sX sY ha hm hz hN hS;have hX:0<X.length:=by omega
 refine af.body Tryz.f136 _ mixed Tryz.func136 rfl rfl (by simp [Tryz.ntmps136]) ?_;have w1:IntKind.i64.wrap ((m:Int) - a)=X.length:=by rw [aD (by omega) (by omega)];omega
 have w2:IntKind.i64.wrap ((z:Int) - m)=Y.length:=by rw [aD (by omega) (by omega)];omega
 have gX: ∀t x,a≤t→t<m→X[t - a]? =some x→(P++(X++(Y++Q)))[t]? =some x:=fun t x h1 h2 hx=>by rw [WV (by omega) (by omega),ha];exact hx
 have gY: ∀t y,m≤t→t<z→Y[t - m]? =some y→(P++(X++(Y++Q)))[t]? =some y:=fun t y h1 h2 hy=>by rw [WW (by omega) (by omega),ha,hm];exact hy
 have hal:(P++(X++(Y++Q))).length=N:=by simp;omega
 obtain⟨x,rfl⟩:=List.length_eq_one_iff.1 hX1;simp [w1,w2];have hx:=gX a x (by omega) (by omega) (by simp);generalize hall:P++([x]++(Y++Q))=all at hx gX gY hal;have hall':P++x::(Y++Q)=all:=by rw [←hall];rfl
 rw [hall'];have hxS:x∈S:=hS x (by simp);have hxO:=hn x hxS;have hx5:x.length=5:=hxO;have tx:x.take 5=x:=zG (by omega);have dx:x.drop 5=[]:=zH (by omega);refine aW.down mixed (fun k fr h'=> ∃i j:Nat,k=j - i∧m≤i∧i≤j∧j≤z∧fr 0= .own b 0 N∧fr 1= .int .i64 a∧fr 2= .int .i64 m∧fr 3= .int .i64 z∧fr 4= .fn (.func f) [] caps∧fr 10= .int .i64 i∧fr 11= .int .i64 j∧
  (∀t y,t<i - m→Y[t]? =some y→c y x<0)∧(∀t y,j≤t+m→Y[t]? =some y→0≤c y x)∧h'=h.set b (.cells 5 all)) (z - m) ⟨m,z,rfl,by omega,by omega,by omega,by simp,by simp,by simp,by simp,by simp,by simp,by simp,by omega,fun t y ht hy=>by have:=aK hy;omega,by simp⟩ ?_
 rintro k fr h' ⟨i,j,rfl,hmi,hij,hjb,e0,e1,e2,e3,e4,e10,e11,hlo,hhi,rfl⟩;rcases zN i j with hlt | hge
 ·have wh:=ww (i:=i) (j:=j) (by omega);have ht1:i≤(i+j) / 2:=by omega
  have ht2:(i+j) / 2<j:=by omega
  generalize (i+j) / 2=t at wh ht1 ht2;obtain⟨y,hy,hy'⟩:=aN (l:=Y) (i:=t - m) (by omega);have hgy:=gY t y (by omega) (by omega) hy;have hyS:y∈S:=hS y (by simp [zF hy]);have hyO:=hn y hyS;have hy5:y.length=5:=hyO;have ty:y.take 5=y:=zG (by omega);have ew:=aB (i:=t) (by omega);simp [e0,e1,e2,e3,e4,e10,e11,hlt,wh,hgy,hx,hb,hal,hx5,hy5];refine⟨by decide,by omega,by omega,?_⟩;rw [tx,ty];refine ay.pure _ (fun _=>hc y hyS x hxS _) ?_;simp [e0,e1,e2,e3,e4,e10,e11,wh,ew];refine⟨fun hcy=>⟨j - (t+1),by omega,t+1,j,rfl,by omega,by omega,by omega,by omega,by omega,?_,hhi⟩,fun hcy=>⟨t - i,by omega,i,t,rfl,by omega,by omega,by omega,by omega,by omega,hlo,?_⟩⟩
  ·intro t' y' ht' hy';have:=sY.get o (i:=t') (j:=t - m) (by omega) hy' hy;have h2:=o.le_lt this (by simpa using hcy:decide (c y x<0)=true);simpa using h2
  ·intro t' y' ht' hy';have:=sY.get o (i:=t - m) (j:=t') (by omega) hy hy';have h2:=o.trans _ _ _ this (by simpa using hcy:decide (c y x<0)=false);simpa using h2
 ·obtain rfl:i=j:=by omega
  have hfin:P++(Y.take (i - m)++x::(Y.drop (i - m)++Q))=P++(aT (fun x y=>decide (c x y<0)) ([x]++Y)++Q):=by
   have:=QN o (x:=x) (y1:=Y.take (i - m)) (y2:=Y.drop (i - m)) (by rw [List.take_append_drop];exact sY) ?_ ?_
   ·rw [List.take_append_drop] at this;rw [show [x]++Y=x::Y from rfl,←this];simp
   ·intro y hy;obtain⟨t,ht,hy⟩:=nO.1 hy;simpa using hlo t y ht hy
   ·intro y hy;obtain⟨t,ht,hy⟩:=nN.1 hy;simpa using hhi t y (by omega) hy
  have w3:IntKind.i64.wrap ((i:Int) - 1)=(i - 1:Nat):=by rw [aD (by omega) (by omega)];omega
  simp [e0,e1,e2,e3,e4,e10,e11];refine aW.up mixed (i - m) (fun t fr h'=> ∃q:Nat,q=a+t∧fr 0= .own b 0 N∧fr 10= .int .i64 i∧fr 13= .int .i64 q∧h'=h.set b (.cells 5 (P++(Y.take t++x::(Y.drop t++Q))))) 0 (by omega) ⟨a,by omega,by simp [e0],by simp [e10],by simp,by simp [hall']⟩ ?_;rintro t fr h' ht ⟨q,hq,e0,e10,e13,rfl⟩;rcases zN t (i - m) with hlt | hge
  ·obtain⟨y,hy,hy'⟩:=aN (l:=Y) (i:=t) (by omega);have hA:(P++Y.take t).length=q:=by simp;omega
   have g1:=ZG (P++Y.take t) [] (Y.drop (t+1)++Q) x y;have g2:=at2 (P++Y.take t) [] (Y.drop (t+1)++Q) x y;have g3:=set2 (P++Y.take t) [] (Y.drop (t+1)++Q) x y;have hcur:P++(Y.take t++x::(Y.drop t++Q))=(P++Y.take t)++x::([]++y::(Y.drop (t+1)++Q)):=by rw [bF hy];simp
   have hnx:(P++Y.take t)++y::([]++x::(Y.drop (t+1)++Q))=P++(Y.take (t+1)++x::(Y.drop (t+1)++Q)):=by rw [zM,hy];simp
   have hcl:(P++(Y.take t++x::(Y.drop t++Q))).length=N:=by simp at hal ⊢;omega
   rw [hnx] at g3;rw [←hcur] at g1 g2 g3;rw [hA] at g1 g2 g3;have hyS:y∈S:=hS y (by simp [zF hy]);have hyO:=hn y hyS;have hy5:y.length=5:=hyO;have ty:y.take 5=y:=zG (by omega);have dy:y.drop 5=[]:=zH (by omega);have ew:=RN (i:=q) (by omega);have hqi:q<i - 1:=by omega
   generalize P++(Y.take t++x::(Y.drop t++Q))=cur at*;generalize hnn:P++(Y.take (t+1)++x::(Y.drop (t+1)++Q))=nxt at*;generalize i - 1=i1 at*;simp only [List.length_nil,Nat.add_zero] at g2 g3;simp [e0,e10,e13,w3,hqi,ew,g1,g2,hb,hcl,hx5,hy5,tx,ty,dx,dy,g3];refine⟨by decide,⟨by omega,by omega⟩,by omega,by omega,⟨by omega,by omega⟩,by omega,t+1,by omega,by omega,by omega,?_⟩;rw [hnn]
  ·obtain rfl:t=i - m:=by omega
   have hqi: ¬q<i - 1:=by omega
   generalize i - 1=i1 at*;simp [e0,e10,e13,w3,hqi];rw [hfin];simp
set_option maxHeartbeats 4000000 in
theorem Fj (b:Nat)(hb:b<h.length)(N:Nat)(hl:N≤1000000)(S:List (List AV))(hn: ∀e∈S,e.length=5)(f:FuncId)(caps:List AV)(c:List AV→List AV→Int)(o:SWO (fun x y=>decide (c x y<0)))
  (hc: ∀x∈S,∀y∈S,∀o,af Tryz.prog gl f (.agg x:: .agg y::caps) (h.set b o) fun v h'=>v= .int .i64 (c x y)∧h'=h.set b o): ∀(P X Y Q:List (List AV)) (a m z:Nat),¬X.length=1→0<X.length→Y.length=1→
  qz (fun x y=>decide (c x y<0)) X→qz (fun x y=>decide (c x y<0)) Y→P.length=a→a+X.length=m→m+Y.length=z→N=z+Q.length→(∀e∈P++(X++(Y++Q)),e∈S)→
  af Tryz.prog gl 136 [.own b 0 N,.int .i64 a,.int .i64 m,.int .i64 z,.fn (.func f) [] caps] (h.set b (.cells 5 (P++(X++(Y++Q)))))
   fun v h'=>v= .tup []∧h'=h.set b (.cells 5 (P++(aT (fun x y=>decide (c x y<0)) (X++Y)++Q))):=by
 intro P X Y Q a m z hX1 hX hY1 sX sY ha hm hz hN hS;have hY:0<Y.length:=by omega
 refine af.body Tryz.f136 _ mixed Tryz.func136 rfl rfl (by simp [Tryz.ntmps136]) ?_;have w1:IntKind.i64.wrap ((m:Int) - a)=X.length:=by rw [aD (by omega) (by omega)];omega
 have w2:IntKind.i64.wrap ((z:Int) - m)=Y.length:=by rw [aD (by omega) (by omega)];omega
 have gX: ∀t x,a≤t→t<m→X[t - a]? =some x→(P++(X++(Y++Q)))[t]? =some x:=fun t x h1 h2 hx=>by rw [WV (by omega) (by omega),ha];exact hx
 have gY: ∀t y,m≤t→t<z→Y[t - m]? =some y→(P++(X++(Y++Q)))[t]? =some y:=fun t y h1 h2 hy=>by rw [WW (by omega) (by omega),ha,hm];exact hy
 have hal:(P++(X++(Y++Q))).length=N:=by simp;omega
 obtain⟨y,rfl⟩:=List.length_eq_one_iff.1 hY1;have n1: ¬(X.length:Int)=1:=by omega
 simp [w1,w2,n1];have hy:=gY m y (by omega) (by omega) (by simp);generalize hall:P++(X++([y]++Q))=all at hy gX gY hal;have hall':P++(X++y::Q)=all:=by rw [←hall];rfl
 rw [hall'];have hyS:y∈S:=hS y (by simp);have hyO:=hn y hyS;have hy5:y.length=5:=hyO;have ty:y.take 5=y:=zG (by omega);have dy:y.drop 5=[]:=zH (by omega);refine aW.down mixed (fun k fr h'=> ∃i j:Nat,k=j - i∧a≤i∧i≤j∧j≤m∧fr 0= .own b 0 N∧fr 1= .int .i64 a∧fr 2= .int .i64 m∧fr 3= .int .i64 z∧fr 4= .fn (.func f) [] caps∧fr 14= .int .i64 i∧fr 15= .int .i64 j∧
  (∀t x,t<i - a→X[t]? =some x→0≤c y x)∧(∀t x,j≤t+a→X[t]? =some x→c y x<0)∧h'=h.set b (.cells 5 all)) (m - a) ⟨a,m,rfl,by omega,by omega,by omega,by simp,by simp,by simp,by simp,by simp,by simp,by simp,by omega,fun t y ht hy=>by have:=aK hy;omega,by simp⟩ ?_
 rintro k fr h' ⟨i,j,rfl,hmi,hij,hjb,e0,e1,e2,e3,e4,e14,e15,hlo,hhi,rfl⟩;rcases zN i j with hlt | hge
 ·have wh:=ww (i:=i) (j:=j) (by omega);have ht1:i≤(i+j) / 2:=by omega
  have ht2:(i+j) / 2<j:=by omega
  generalize (i+j) / 2=t at wh ht1 ht2;obtain⟨x,hx,hx'⟩:=aN (l:=X) (i:=t - a) (by omega);have hgx:=gX t x (by omega) (by omega) hx;have hxS:x∈S:=hS x (by simp [zF hx]);have hxO:=hn x hxS;have hx5:x.length=5:=hxO;have tx:x.take 5=x:=zG (by omega);have ew:=aB (i:=t) (by omega);simp [e0,e1,e2,e3,e4,e14,e15,hlt,wh,hgx,hy,hb,hal,hx5,hy5];refine⟨by decide,by omega,by omega,?_⟩;rw [tx,ty];refine ay.pure _ (fun _=>hc y hyS x hxS _) ?_;simp [e0,e1,e2,e3,e4,e14,e15,wh,ew];refine⟨fun hcy=>⟨j - (t+1),by omega,t+1,j,rfl,by omega,by omega,by omega,by omega,by omega,?_,hhi⟩,fun hcy=>⟨t - i,by omega,i,t,rfl,by omega,by omega,by omega,by omega,by omega,hlo,?_⟩⟩
  ·intro t' x' ht' hx';have:=sX.get o (i:=t') (j:=t - a) (by omega) hx' hx;have h2:=o.trans _ _ _ (by simpa using hcy:decide (c y x<0)=false) this;simpa using h2
  ·intro t' x' ht' hx';have:=sX.get o (i:=t - a) (j:=t') (by omega) hx hx';have h2:=o.lt_le (by simpa using hcy:decide (c y x<0)=true) this;simpa using h2
 ·obtain rfl:i=j:=by omega
  have hfin:P++(X.take (i - a)++y::(X.drop (i - a)++Q))=P++(aT (fun x y=>decide (c x y<0)) (X++[y])++Q):=by
   have:=NP o (y:=y) (x1:=X.take (i - a)) (x2:=X.drop (i - a)) (by rw [List.take_append_drop];exact sX) ?_ ?_
   ·rw [List.take_append_drop] at this;rw [←this];simp
   ·intro x hx;obtain⟨t,ht,hx⟩:=nO.1 hx;simpa using hlo t x ht hx
   ·intro x hx;obtain⟨t,ht,hx⟩:=nN.1 hx;simpa using hhi t x (by omega) hx
  simp [e0,e1,e2,e3,e4,e14,e15];refine aW.down mixed (fun t fr h'=> ∃q:Nat,q=a+t∧i≤q∧t≤X.length∧fr 0= .own b 0 N∧fr 14= .int .i64 i∧fr 17= .int .i64 q∧h'=h.set b (.cells 5 (P++(X.take t++y::(X.drop t++Q))))) X.length ⟨m,by omega,by omega,by omega,by simp [e0],by simp [e14],by simp,by simp [←hall']⟩ ?_;rintro t fr h' ⟨q,hq,hiq,htX,e0,e14,e17,rfl⟩;rcases zN i q with hlt | hge
  ·obtain⟨s,rfl⟩: ∃s,t=s+1:=⟨t - 1,by omega⟩;obtain⟨x,hx,hx'⟩:=aN (l:=X) (i:=s) (by omega);obtain⟨r,rfl⟩: ∃r,q=r+1:=⟨q - 1,by omega⟩;have hA:(P++X.take s).length=r:=by simp;omega
   have g1:=ZG (P++X.take s) [] (X.drop (s+1)++Q) x y;have g2:=at2 (P++X.take s) [] (X.drop (s+1)++Q) x y;have g3:=Za (P++X.take s) [] (X.drop (s+1)++Q) x y;have hcur:P++(X.take (s+1)++y::(X.drop (s+1)++Q))=(P++X.take s)++x::([]++y::(X.drop (s+1)++Q)):=by rw [zM,hx];simp
   have hnx:(P++X.take s)++y::([]++x::(X.drop (s+1)++Q))=P++(X.take s++y::(X.drop s++Q)):=by rw [bF hx];simp
   have hcl:(P++(X.take (s+1)++y::(X.drop (s+1)++Q))).length=N:=by simp at hal ⊢;omega
   rw [hnx] at g3;rw [←hcur] at g1 g2 g3;rw [hA] at g1 g2 g3;have hxS:x∈S:=hS x (by simp [zF hx]);have hxO:=hn x hxS;have hx5:x.length=5:=hxO;have tx:x.take 5=x:=zG (by omega);have dx:x.drop 5=[]:=zH (by omega);have e17':fr 17= .int .i64 ((r:Int)+1):=by rw [e17];simp
   have w4:IntKind.i64.wrap (r:Int)=r:=aD (by omega) (by omega);have hir:(i:Int)<r+1:=by omega
   generalize P++(X.take (s+1)++y::(X.drop (s+1)++Q))=cur at*;generalize hnn:P++(X.take s++y::(X.drop s++Q))=nxt at*;simp only [List.length_nil,Nat.add_zero] at g2 g3;simp [e0,e14,e17',hir,w4,g1,g2,hb,hcl,hx5,hy5,tx,ty,dx,dy,g3];refine⟨by decide,by omega,⟨by omega,by omega⟩,by omega,⟨by omega,by omega⟩,by omega,by omega,s,by omega,by omega,by omega,by omega,?_⟩;rw [hnn]
  ·obtain rfl:t=i - a:=by omega
   have hqi: ¬i<q:=by omega
   simp [e0,e14,e17,hqi];rw [hfin]
end Go.Proofs.YtkpioblbeiaefaaGreat
