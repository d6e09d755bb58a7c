/- Part 17 of the lemmas below the statements of this seat: TripF, AbsSortF, SortFLay, SortRoad, Roads, GrA. -/
import Derived.Test.YtkpioblbeiaefaaGreatPr16
import Derived.Shelf.SlSortCmp.NoneTotal
set_option linter.unusedSectionVars false
set_option linter.unusedVariables false
set_option linter.unusedSimpArgs false
set_option linter.unnecessarySimpa false
set_option maxRecDepth 100000
section
namespace Go.Proofs.YtkpioblbeiaefaaGreat
open Go Go.Abs Go.Toll
variable {gl : aM} {h : af}
def nO:Nat→Option rE:=fun id=>if id=3 then some (.last 7 [(6,0)]) else if id=6 then some (.last 14 [(7,0)]) else if id=8 then some (.last 12 [(4,7),(11,0),(11,7)]) else if id=11 then some (.last 11 [(4,7)]) else none
structure YD (w:bS):Prop where
 trips:w.trips.length≤900000
 out:w.out.length≤900000
 opn:w.opn.length≤900
 before:w.before.length≤1000000
 last:w.last.length≤1000000
 stops: ∀x∈w.opn,(0≤x.time∧x.time<68719476736)∧x.point.length≤1000000
theorem Tx (t:aY)(l:List aX)(s:aX):mh t l s=0∨mh t l s=1∨mh t l s=2∨mh t l s=3∨mh t l s=4∨mh t l s=5:=by
 unfold mh;split
 ·simp
 split
 ·simp
 split
 ·split <;> simp
 ·split <;> simp
set_option maxHeartbeats 8000000 in
theorem Py (s:aX) {t:aY} {veh:Bytes} {mb:Nat} {m:List (Bytes×Int)} {b lo:Nat} {tr ou op:AV} {w:bS} (hw:wJ t veh mb m b lo h tr ou op w)(hop:Ls 3 lo h op (w.opn.map ak))(hb:YD w)
  (hs:(0≤s.time∧s.time<68719476736)∧s.point.length≤1000000) (hp:t.net.pts.length≤1000) (hlk:t.net.lks.length≤1000) (hsy:t.sys.length≤1000):
  aa Tryz.prog gl 77 [.ptr b 0 0,.agg (ak s)] h fun v h'=>v= .tup []∧(∃tr' ou' op',wJ t veh mb m b lo h' tr' ou' op' (bV t veh (rV m) w s)∧Ls 3 lo h' op' ((bV t veh (rV m) w s).opn.map ak))∧ ∀h0:af,h0.length≤lo→ ∀x:af,h=h0++x→ ∃g,h'=h0++g:=by
 refine aa.bodyN nO Tryz.f77 _ mixed Tryz.func77 rfl rfl (by simp [Tryz.ntmps77]) ?_;have hof:=hop.rs.fix;have hlo:=hw.low;have hbl:=aK hw.blk;have hw1:=hw.more [.cells 3 [ak s]];have hop1:=hop.more [.cells 3 [ak s]];have wh:=PL (gl:=gl) s hw1 hop1 (by have:=hb.opn;omega) hs.1 (fun x hx=>(hb.stops x hx).1) hp hlk hsy;have hK1:oD lo h (h++[.cells 3 [ak s]]):=(oD.refl lo h).more _;simp [nO,-aS,ak];refine ax.pure _ (fun _=>by simpa [ak] using wh) ?_;unfold bV lC;rcases Tx t w.opn s with q | q | q | q | q | q
 case inr.inr.inr.inr.inr=>
  rw [q];simp [nO,-aS,ak];have hw2:=hw.more [.cells 3 [ak s],.cells 3 [ak s]];refine ax.any (qP 12 [s] (.own (h.length+1) 0 1) (by simpa [ak] using hw2) (Rs.own (es:=[ak s]) (by simp [ak]) (by simp)) (by simp) (by have:=hb.out;omega) hof) ?_;rintro v h' ⟨rfl,⟨ou',hW⟩,hK⟩;have hsx:=hK.stops h.length [ak s] (by simp [ak]);have hK2:oD lo h (h++[.cells 3 [ak s],.cells 3 [ak s]]):=(oD.refl lo h).more _;have hKa:oD lo h h':=hK2.trans hK;have hLs:=hKa.ls hop;have hs3:=at3 hsx;simp only [ak] at hs3;have hb4:=at3 hW.blk;simp only [iV] at hb4;have htf:=hW.trips.rs.fix;have huf:=hW.out.rs.fix;have hpf:=hLs.rs.fix;by_cases c:s.pass=[]
  ·simp [nO,-aS,-ah,-AV.solid,c,hs3,hb4,htf,huf,hpf];exact⟨⟨_,_,_,hW,hLs⟩,fun h0 h1 x e=>hKa.base h0 h1 ⟨x,e⟩⟩
  ·simp [nO,-aS,-ah,-AV.solid,c,hs3,hb4,htf,huf,hpf];exact⟨⟨_,_,_,hW.put (w':= { w with out:=w.out++eB 12 [s],last:=s.pass }) _ rfl rfl,iT hLs hW.blk (by decide) _⟩,fun h0 h1 x e=>(hKa.set hW.blk (by decide) hlo _).base h0 h1 ⟨x,e⟩⟩
 case inr.inr.inr.inr.inl=>
  rw [q];simp [nO,-aS,ak];have hw2:=hw.more [.cells 3 [ak s]];refine ax.any (uE (by simpa [ak] using hw2) (by simpa [ak] using hop1) (by have:=hb.opn;omega) (by have:=hb.out;omega)) ?_;rintro v h1 ⟨rfl,⟨ou1,hW1⟩,hKb⟩;have hsx1:=hKb.stops h.length [ak s] (by simp [ak]);have hs4:=at3 hsx1;simp only [ak] at hs4;have hKc:oD lo h h1:=hK1.trans hKb;simp [nO,-aS,hs4];have hw3:=hW1.more [.cells 3 [ak s]];refine ax.any (qP 10 [s] (.own h1.length 0 1) (by simpa [ak] using hw3) (Rs.own (es:=[ak s]) (by simp [ak]) (by simp)) (by simp) (by have:=hb.out;have:=hb.opn;have:=iH 11 w.opn;simp [uO];omega) (by simp)) ?_;rintro v h' ⟨rfl,⟨ou',hW⟩,hK⟩;have hW:wJ t veh mb m b lo h' tr ou' .nil { w with out:=w.out++(eB 11 w.opn++eB 10 [s]),opn:=[] }:=by simpa [uO] using hW
  have hsx:=hK.stops h.length [ak s] (aP hsx1 _);have hKd:oD lo h (h1++[.cells 3 [ak s]]):=hKc.more _;have hKa:oD lo h h':=hKd.trans hK;have hLs:Ls 3 lo h' .nil ([].map ak):=Ls.nil;have hs3:=at3 hsx;simp only [ak] at hs3;have hb4:=at3 hW.blk;simp only [iV] at hb4;have htf:=hW.trips.rs.fix;have huf:=hW.out.rs.fix;have hpf:=hLs.rs.fix;by_cases c:s.pass=[]
  ·simp [nO,-aS,-ah,-AV.solid,c,hs3,hb4,htf,huf,hpf];exact⟨⟨_,_,_,hW,hLs⟩,fun h0 h1 x e=>hKa.base h0 h1 ⟨x,e⟩⟩
  ·simp [nO,-aS,-ah,-AV.solid,c,hs3,hb4,htf,huf,hpf];exact⟨⟨_,_,_,hW.put (w':= { w with out:=w.out++(eB 11 w.opn++eB 10 [s]),opn:=[],last:=s.pass }) _ rfl rfl,iT hLs hW.blk (by decide) _⟩,fun h0 h1 x e=>(hKa.set hW.blk (by decide) hlo _).base h0 h1 ⟨x,e⟩⟩
 case inl=>
  rw [q];have hb5:=at3 hw1.blk;have hw2:=hw.more [.cells 3 [ak s],.cells 3 [ak s]];have hb6:=at3 hw2.blk;simp only [iV,ak] at hb5 hb6;simp [nO,av,-ah,-AV.solid,ak,hb5,hb6,hof];refine⟨by decide,?_⟩;refine ax.any (Kv [s] (h.length+1) w.last (by simpa [ak] using hw2) (by simp [ak]) (by simp) (by simp) hb.last (by intro x hx;obtain rfl:=List.mem_singleton.1 hx;exact hs.2) (by have:=hb.trips;omega) hof hp hlk hsy) ?_;rintro v h' ⟨rfl,⟨tr',hW⟩,hK⟩;have hsx:=hK.stops h.length [ak s] (by simp [ak]);have hK2:oD lo h (h++[.cells 3 [ak s],.cells 3 [ak s]]):=(oD.refl lo h).more _;have hKa:oD lo h h':=hK2.trans hK;have hLs:=hKa.ls hop;have hs3:=at3 hsx;simp only [ak] at hs3;have hb4:=at3 hW.blk;simp only [iV] at hb4;have htf:=hW.trips.rs.fix;have huf:=hW.out.rs.fix;have hpf:=hLs.rs.fix;by_cases c:s.pass=[]
  ·simp [nO,-aS,-ah,-AV.solid,c,hs3,hb4,htf,huf,hpf];exact⟨⟨_,_,_,hW,hLs⟩,fun h0 h1 x e=>hKa.base h0 h1 ⟨x,e⟩⟩
  ·simp [nO,-aS,-ah,-AV.solid,c,hs3,hb4,htf,huf,hpf];exact⟨⟨_,_,_,hW.put (w':= { w with trips:=w.trips++[kz t veh (rV m) [s] w.last],last:=s.pass }) _ rfl rfl,iT hLs hW.blk (by decide) _⟩,fun h0 h1 x e=>(hKa.set hW.blk (by decide) hlo _).base h0 h1 ⟨x,e⟩⟩
 case inr.inl=>
  rw [q];simp [nO,-aS,ak];refine ax.any (uE (by simpa [ak] using hw1) (by simpa [ak] using hop1) (by have:=hb.opn;omega) (by have:=hb.out;omega)) ?_;rintro v h1 ⟨rfl,⟨ou1,hW1⟩,hKb⟩;have hsx1:=hKb.stops h.length [ak s] (by simp [ak]);have hs4:=at3 hsx1;simp only [ak] at hs4;have hKc:oD lo h h1:=hK1.trans hKb;have hb5:=at3 hW1.blk;have hW2:=hW1.more [.cells 3 [ak s]];have hb6:=at3 hW2.blk;simp only [iV,ak] at hb5 hb6;have htf1:=hW1.trips.rs.fix;have huf1:=hW1.out.rs.fix;have hne:b≠h.length:=by omega
  have hs5:=fun o:bY=>at3 (get_put (p:=o) hW1.blk hsx1 hne);simp only [ak] at hs5;have hl1:=aK hsx1;have hb1l:=aK hW1.blk;have put1:=fun (la:Bytes)=>(hW1.put (w':= { w with out:=w.out++eB 11 w.opn,opn:=[s],before:=w.last,last:=la }) (.own h1.length 0 1) rfl rfl).more [.cells 3 [ak s]];have ls1: ∀o:bY,Ls 3 lo (h1.set b o++[.cells 3 [ak s]]) (.own h1.length 0 1) ([s].map ak):=fun o=>Ls.own (by rw [zD (by simp)];simp) (by omega) (by simp) (by simp);have hKa:=fun o:bY=>(hKc.set hW1.blk (by decide) hlo o).more [.cells 3 [ak s]];by_cases c:s.pass=[]
  ·simp [nO,av,-ah,-AV.solid,hs4,hs5,hb5,hb6,htf1,huf1,hb1l,c];refine⟨⟨by decide,by decide⟩,⟨tr,ou1,.own h1.length 0 1,by simpa [iV,ak,uO,c] using put1 w.last,by simpa [ak,c] using ls1 _⟩,fun h0 h1 x e=>by simpa [ak,c] using (hKa _).base h0 h1 ⟨x,e⟩⟩
  ·simp [nO,av,-ah,-AV.solid,hs4,hs5,hb5,hb6,htf1,huf1,hb1l,c];refine⟨⟨by decide,by decide⟩,⟨tr,ou1,.own h1.length 0 1,by simpa [iV,ak,uO] using put1 s.pass,by simpa [ak] using ls1 _⟩,fun h0 h1 x e=>by simpa [ak] using (hKa _).base h0 h1 ⟨x,e⟩⟩
 case inr.inr.inl=>
  rw [q];have hb5:=at3 hw1.blk;have hw2:=hw.more [.cells 3 [ak s],.cells 3 [ak s]];have hb6:=at3 hw2.blk;simp only [iV,ak] at hb5 hb6;simp [nO,av,-aj,-au,-ah,-AV.solid,ak,hb5,hb6,hof];have hop2:=hop.more [.cells 3 [ak s],.cells 3 [ak s]];refine⟨⟨by decide,by decide⟩,?_⟩;refine aN (lo:=lo) (n:=3) (es:=w.opn.map ak) (ys:=[ak s]) (by simpa [ak] using hop2) (by simp;omega) (by simp [bE,ak]) (by have:=hb.opn;simp;omega) ?_;intro s1 H1 hs1 hg1 hn1;have hg1:Grow lo (h++[.cells 3 [ak s],.cells 3 [ak s]]) op H1:=by simpa [ak] using hg1
  have hb1:=hg1.keep b _ hw2.blk (sS hop2 hw2.blk (by decide));have hm1:=hg1.keep mb _ hw2.mp (kT hop2 hw2.mp);have ht1:=gQ hw2.trips hop2 (by decide) hg1;have ho1:=gQ hw2.out hop2 (by decide) hg1;have hW1:wJ t veh mb m b lo H1 tr ou op w:=⟨hb1,hm1,ht1,ho1,hw.low,hw.lom⟩;have hx1:H1[h.length]? =some (.cells 3 [ak s]):=hg1.keep h.length _ (by simp) (fun off len e=>by
   rcases hop.1 with⟨e1,_⟩ | ⟨b',e1,_,hb'⟩
   ·rw [e1] at e;cases e
   ·rw [e1] at e;injection e with e2;have:=aK hb';omega)
  obtain⟨k,hk,hkl,hk1⟩: ∃k,s1= .own k 0 (w.opn++[s]).length∧lo≤k∧H1[k]? =some (.cells 3 ((w.opn++[s]).map ak)):=by
   rcases hs1.1 with⟨_,e⟩ | ⟨k,e,h1,h2⟩
   ·simp at e
   ·exact⟨k,by simpa using e,h1,by simpa using h2⟩
  have hbase: ∀h0:af,h0.length≤lo→(∃g,h=h0++g)→ ∃g,H1=h0++g:=fun h0 hl hg=>hg1.base h0 hl (aI hg _);subst hk;have hb7:=at3 hb1;have hb0:=at3 hw.blk;simp only [iV] at hb7 hb0;simp [nO,av,-aj,-au,-ah,-AV.solid,hb7,hb0,hbl];have hal: ∀x∈w.opn++[s],x.point.length≤1000000:=by
   intro x hx;rcases List.mem_append.1 hx with hx | hx
   ·exact (hb.stops x hx).2
   ·rw [List.mem_singleton.1 hx];exact hs.2
  have wa:=Kv (gl:=gl) (w.opn++[s]) k w.before hW1 hk1 (by simp) (by have:=hb.opn;simp;omega) hb.before hal (by have:=hb.trips;omega) hof hp hlk hsy;have hlen:(w.opn++[s]).length=w.opn.length+1:=by simp
  rw [hlen] at wa;refine ax.any wa ?_;rintro v h2 ⟨rfl,⟨tr',hW⟩,hK⟩;have hsx:=hK.stops h.length [ak s] hx1;have hs3:=at3 hsx;simp only [ak] at hs3;have hb4:=at3 hW.blk;simp only [iV] at hb4;have htf:=hW.trips.rs.fix;have huf:=hW.out.rs.fix;have hne:b≠h.length:=by omega
  have hs5:=fun o:bY=>at3 (get_put (p:=o) hW.blk hsx hne);simp only [ak] at hs5;have put1:=fun (la:Bytes)=>(hW.put (w':= { w with trips:=w.trips++[kz t veh (rV m) (w.opn++[s]) w.before],opn:=[],last:=la }) .nil rfl rfl);have hLs: ∀H:af,Ls 3 lo H .nil ([].map ak):=fun H=>Ls.nil;have hB:=fun (o:bY) (h0:af) (h1:h0.length≤lo) (x:af) (h2:h=h0++x)=>dA (hK.base h0 h1 (hbase h0 h1 ⟨x,h2⟩)) (Nat.le_trans h1 hlo) o;by_cases c:s.pass=[]
  ·simp [nO,-aS,-ah,-AV.solid,c,hs3,hs5,hb4,htf,huf];refine⟨⟨_,_,_,by simpa [iV] using put1 w.last,by simpa [iV] using hLs _⟩,by simpa [iV] using hB _⟩
  ·simp [nO,-aS,-ah,-AV.solid,c,hs3,hs5,hb4,htf,huf];refine⟨⟨_,_,_,by simpa [iV] using put1 s.pass,by simpa [iV] using hLs _⟩,by simpa [iV] using hB _⟩
 case inr.inr.inr.inl=>
  rw [q];have hb5:=at3 hw1.blk;have hw2:=hw.more [.cells 3 [ak s],.cells 3 [ak s]];have hb6:=at3 hw2.blk;simp only [iV,ak] at hb5 hb6;simp [nO,av,-aj,-au,-ah,-AV.solid,ak,hb5,hb6,hof];have hop2:=hop.more [.cells 3 [ak s],.cells 3 [ak s]];refine⟨by decide,?_⟩;refine aN (lo:=lo) (n:=3) (es:=w.opn.map ak) (ys:=[ak s]) (by simpa [ak] using hop2) (by simp;omega) (by simp [bE,ak]) (by have:=hb.opn;simp;omega) ?_;intro s1 H1 hs1 hg1 hn1;have hg1:Grow lo (h++[.cells 3 [ak s],.cells 3 [ak s]]) op H1:=by simpa [ak] using hg1
  have hb1:=hg1.keep b _ hw2.blk (sS hop2 hw2.blk (by decide));have hm1:=hg1.keep mb _ hw2.mp (kT hop2 hw2.mp);have ht1:=gQ hw2.trips hop2 (by decide) hg1;have ho1:=gQ hw2.out hop2 (by decide) hg1;have hW:wJ t veh mb m b lo H1 tr ou op w:=⟨hb1,hm1,ht1,ho1,hw.low,hw.lom⟩;have hsx:H1[h.length]? =some (.cells 3 [ak s]):=hg1.keep h.length _ (by simp) (fun off len e=>by
   rcases hop.1 with⟨e1,_⟩ | ⟨b',e1,_,hb'⟩
   ·rw [e1] at e;cases e
   ·rw [e1] at e;injection e with e2;have:=aK hb';omega)
  have hs1f:=hs1.rs.fix;have hbase: ∀h0:af,h0.length≤lo→(∃g,h=h0++g)→ ∃g,H1=h0++g:=fun h0 hl hg=>hg1.base h0 hl (aI hg _);have hb7:=at3 hb1;have hb0:=at3 hw.blk;have hs3:=at3 hsx;simp only [iV,ak] at hb7 hb0 hs3;have htf:=hW.trips.rs.fix;have huf:=hW.out.rs.fix;have hne:b≠h.length:=by omega
  have hs5:=fun o:bY=>at3 (get_put (p:=o) hW.blk hsx hne);simp only [ak] at hs5;have put1:=fun (la:Bytes)=>(hW.put (w':= { w with opn:=w.opn++[s],last:=la }) s1 rfl rfl);have hLs: ∀o:bY,Ls 3 lo (H1.set b o) s1 ((w.opn++[s]).map ak):=fun o=>by
   have h5:Ls 3 lo H1 s1 ((w.opn++[s]).map ak):=by simpa using hs1
   obtain⟨h6,h7⟩:=h5;refine⟨?_,h7⟩;rcases h6 with h6 | ⟨b',e,hl,hb'⟩
   ·exact .inl h6
   ·exact .inr ⟨b',e,hl,get_put hb1 hb' (Vj hb1 hb' (by decide))⟩
  have hB:=fun (o:bY) (h0:af) (h1:h0.length≤lo) (x:af) (h2:h=h0++x)=>dA (hbase h0 h1 ⟨x,h2⟩) (Nat.le_trans h1 hlo) o;by_cases c:s.pass=[]
  ·simp [nO,-aS,av,-aj,-au,-ah,-AV.solid,c,hb7,hb0,hbl,hs3,hs5,hs1f,htf,huf];refine⟨⟨_,_,_,by simpa [iV] using put1 w.last,by simpa [iV] using hLs _⟩,by simpa [iV] using hB _⟩
  ·simp [nO,-aS,av,-aj,-au,-ah,-AV.solid,c,hb7,hb0,hbl,hs3,hs5,hs1f,htf,huf];refine⟨⟨_,_,_,by simpa [iV] using put1 s.pass,by simpa [iV] using hLs _⟩,by simpa [iV] using hB _⟩
end Go.Proofs.YtkpioblbeiaefaaGreat
end
section
section
namespace Go.Abs
open Go Go.Proofs Go.Shelf Go.RowKit Go.Lib Go.Sort
structure Wh {β:Type} (k:Nat)(enc:β→List AV)(encV:β→List Value):Prop where
 pos:0<k
 len: ∀x,(enc x).length=k
 lenV: ∀x,(encV x).length=k
 one: ∀x,∀v∈encV x,v.oneCell'=true
 rel: ∀x (c:Nat) y,(enc x)[c]? =some y→ ∃u,(encV x)[c]? =some u∧(∀J O w,aL J O w y u)∧ ∀J O w v,aL J O w y v→v=u
theorem Rx {P:Program} {ρ:Ren} {gl:aM} {h:af} (L:SlLaysF0.n6 P ρ) {β:Type} (k:Nat)(aE: ∀w,(isAgg (ρ.t 24)).run P w= .ok true w)(zE: ∀w,(Go.sizeOf (ρ.t 24)).run P w= .ok k w)(enc:β→List AV)(encV:β→List Value)(hE:Wh k enc encV)
  (key:β→Int) (g:Nat) (eg: ∀args w,(callFunc g args).run P w= .ok (.enter g args) w) (rows:List β)
  (hcmp: ∀x∈rows,∀y∈rows,∀W,Calls P g #[.agg (encV x).toArray,.agg (encV y).toArray] W fun e w'=>e= .returned (.int .i64 (key x - key y))∧ ∃q os',w'=grow (W.drewN q) os')
  (hnd:(rows.map key).Nodup) (hl:rows.length<4611686018427387904) {lo:Nat} {x:AV} (hx:Ls k lo h x (rows.map enc)):
  aa P gl (ρ.f 6) [x,.fn (.func g) [] []] h fun v h'=>v= .tup []∧Ls k lo h' x ((rows.mergeSort fun a b=>decide (key a≤key b)).map enc)∧h'.length=h.length∧ ∀(b:Nat) (o:bY),h[b]? =some o→(∀off len,x≠ .own b off len)→h'[b]? =some o:=by
 refine⟨?_,fun J w vs hh hv=> ?_⟩
 ·obtain⟨nm,hn,hf⟩:=L.f6;exact⟨_,hf,rfl,hn⟩
 ·obtain⟨hvl,hvr⟩:=hv
  match vs,hvl with
  | [v,vf],_=>
   have hr:=hvr 0 _ v rfl rfl;have hrf:=hvr 1 _ vf rfl rfl;have hvf:vf= .func (.func g) #[] #[]:=by
    cases hrf with
    | fn _ _ _ a c h1 h2 _ _=>
     obtain rfl:=List.length_eq_zero_iff.1 h1.symm;obtain rfl:=List.length_eq_zero_iff.1 h2.symm;rfl
   subst hvf;by_cases h0:rows=[]
   ·subst h0;obtain⟨base,cap,hv0⟩: ∃base cap,v= .slice base 0 cap:=by
     rcases hx.1 with⟨rfl,_⟩ | ⟨b,rfl,_⟩
     ·cases hr;exact⟨none,0,rfl⟩
     ·cases hr with
      | own _ _ _ k a cap _ _ _ _=>exact⟨some a,cap,rfl⟩
    subst hv0;refine Calls.mono' (AnyF.slices_SortFunc_none L base cap (.func (.func g) #[] #[]) w) ?_;rintro e w' ⟨rfl,rfl⟩;exact⟨.tup [],_,J,h,rfl,hh,.tup [] [] rfl (by simp),iK.refl _ _ _,rfl,by simpa using hx,rfl,fun _ _ ho _=>ho⟩
   ·have hpos:0<rows.length:=List.length_pos_iff.2 h0;rcases hx.1 with⟨_,he⟩ | ⟨b,rfl,hlb,hb⟩
    ·simp at he;exact absurd he h0
    cases hr with
    | own _ _ _ kb a cap hk ha hle hcap=>
     rw [List.length_map] at hle;have ha':=ha (by omega);subst ha';obtain⟨o1,o2,o3,o4,vs0,T,o5,o6,o7⟩:=hh.obj b kb _ hk hb;have hkn:kb.n=k:=o1;obtain⟨x0,hx0⟩: ∃x0,x0∈rows:=List.exists_mem_of_ne_nil _ h0
     let α:= {x:β // x∈rows}
     haveI:Inhabited α:=⟨⟨x0,hx0⟩⟩;have hmul: ∀i c,i<rows.length→c<k→i*k+c<rows.length*k:=fun i c hi hc=>by
      have:(i+1)*k≤rows.length*k:=Nat.mul_le_mul_right k hi;rw [Nat.add_mul,Nat.one_mul] at this;omega
     have cellv: ∀(i c:Nat) (s:β),rows[i]? =some s→c<k→vs0[kb.base+(i*k+c)]? =some (encV s)[c]! :=fun i c s hs hc=>by
      have hcl:c<(enc s).length:=by rw [hE.len];exact hc
      have hy:(enc s)[c]? =some ((enc s)[c]):=zB hcl;obtain⟨u,p1,p2,p3⟩:=o7 i (enc s) c _ (by rw [List.getElem?_map,hs];rfl) hy;obtain⟨u',q1,q2,q3⟩:=hE.rel s c _ hy;have e1:=q3 _ _ _ _ p3;subst e1;rw [hkn] at p1;rw [p1,List.getElem!_eq_getElem?_getD,q1];rfl
     have hd:(rows.attach.toArray:Array α).size=rows.length:=by simp
     have hat: ∀i,i<rows.length→ ∃s,rows[i]? =some s∧((rows.attach.toArray:Array α)[i]!).1=s:=fun i hi=>by
      refine⟨rows[i],zB hi,?_⟩;rw [getElem!_pos _ i (by rw [hd];exact hi)];simp
     let encA:α→List Value:=fun x=>encV x.1
     have hH:HoldsK encA k w kb.r (kb.base+0*kb.n) (rows.attach.toArray:Array α):=fun t ht=>by
      rw [size_flatK,hd] at ht;rw [get_flatK _ _ _ _ (by rw [hd];exact ht)];have hi:t / k<rows.length:=(Nat.div_lt_iff_lt_mul hE.pos).2 ht;obtain⟨s,hs,hs'⟩:=hat (t / k) hi;have hc:t % k<k:=Nat.mod_lt _ hE.pos;refine⟨?_,by simp [World.frozen?,o5]⟩;rw [cell_of_heap o5,Nat.zero_mul,Nat.add_zero];have:=cellv (t / k) (t % k) s hs hc;rw [Nat.mul_comm,Nat.div_add_mod] at this;rw [this];show _=some ((encV ((rows.attach.toArray:Array α)[t / k]!).1)[t % k]!);rw [hs']
     have hswo:SWO (ltOf fun x y:α=>key x.1 - key y.1):=by
      refine⟨fun x=> ?_,fun x y z h1 h2=> ?_,fun x y z h1 h2=> ?_⟩ <;> simp only [ltOf,decide_eq_true_eq,decide_eq_false_iff_not] at* <;> omega
     have hT: ∀x y:α,(ltOf fun x y:α=>key x.1 - key y.1) x y=false→(ltOf fun x y:α=>key x.1 - key y.1) y x=false→x=y:=by
      rintro⟨x,hx⟩ ⟨y,hy⟩ h1 h2;simp only [ltOf,decide_eq_false_iff_not] at h1 h2;have hk:key x=key y:=by omega
      obtain⟨i,hi⟩:=List.getElem?_of_mem hx;obtain⟨j,hj⟩:=List.getElem?_of_mem hy;have e:i=j:=by
       have a1:(rows.map key)[i]? =some (key x):=by rw [List.getElem?_map,hi];rfl
       have a2:(rows.map key)[j]? =some (key x):=by rw [List.getElem?_map,hj,hk];rfl
       exact pz hnd a1 a2
      subst e;rw [hi] at hj;exact Subtype.ext (Option.some.inj hj)
     have hlays:CmpLays P g #[] encA k (fun x y:α=>key x.1 - key y.1) kb.r (kb.base+0*kb.n) (rows.attach.toArray:Array α).size w:=fun m os dk hdk x y=>hcmp x.1 x.2 y.1 y.2 _;have hcall:=AnyQ.slices_SortFunc_total L k aE zE encA (fun x=>hE.lenV x.1) (fun x=>hE.one x.1) (fun x y:α=>key x.1 - key y.1) hswo g #[] kb.r (kb.base+0*kb.n) cap (rows.attach.toArray:Array α) w eg hlays hH (hh.lt b kb hk) (by rw [hd];exact hl) hT;rw [hd] at hcall;rw [List.length_map] at*;refine Calls.mono' hcall ?_;rintro e w' ⟨rfl,n,os,rfl⟩;obtain⟨srt,hsrt⟩: ∃srt,srt=rows.mergeSort fun a b=>decide (key a≤key b):=⟨_,rfl⟩;obtain⟨dl,hdl⟩: ∃dl:List α,dl=rows.attach.mergeSort fun x y=> !(ltOf (fun x y:α=>key x.1 - key y.1) y x):=⟨_,rfl⟩;have hmap:dl.map Subtype.val=srt:=by
      rw [hdl,hsrt,List.map_mergeSort (r:=fun x y:α=> !(ltOf (fun x y:α=>key x.1 - key y.1) y x)) (s:=fun a b=>decide (key a≤key b)),List.attach_map_subtype_val];intro a _ b _;simp only [ltOf];by_cases h:key a.1≤key b.1
      ·rw [decide_eq_true h,decide_eq_false (by omega)];rfl
      ·rw [decide_eq_false h,decide_eq_true (by omega)];rfl
     have hdll:dl.length=rows.length:=by rw [hdl,List.length_mergeSort,List.length_attach]
     have hsl:srt.length=rows.length:=by rw [hsrt,List.length_mergeSort]
     rw [show (rows.attach.toArray:Array α).toList=rows.attach by simp,←hdl,←hsrt];have hw1:(putRowK encA k (Sort.ahead w n) kb.r (kb.base+0*kb.n) dl.toArray).heap[kb.r]? =some (.cells (Sort.putCells id (kb.base+0*kb.n) (flatK encA k dl.toArray) vs0) T (0,0)):=by
      show (w.heap.modify kb.r _)[kb.r]? =_;rw [Array.getElem?_modify,if_pos rfl,o5];rfl
     have keyr:=hh.set (w':=putRowK encA k (Sort.ahead w n) kb.r (kb.base+0*kb.n) dl.toArray) (.cells k (srt.map enc)) hk hb (by simp) (by show (w.heap.modify kb.r _).size=_;rw [Array.size_modify]) (fun r hr=>by
       show (w.heap.modify kb.r _)[r]? =_;rw [Array.getElem?_modify,if_neg (Ne.symm hr)]) rfl rfl rfl (fun O' hm=>by
      refine⟨hkn,by omega,by rw [List.length_map,hsl];simpa using o3,fun i e he=> ?_,_,T,hw1,?_,fun i e c y he hy=> ?_⟩
      ·obtain⟨s,_,rfl⟩:=List.mem_map.1 (zF he);rw [hE.len,hkn]
      ·rw [Sort.putCells,Array.size_mapIdx];exact o6
      ·rw [List.getElem?_map,Option.map_eq_some_iff] at he;obtain⟨s,hs,rfl⟩:=he;have hil:=(zA.1 hs).1;have hc:c<k:=by rw [←hE.len s];exact (zA.1 hy).1
       obtain⟨u,q1,q2,q3⟩:=hE.rel s c y hy;refine⟨u,?_,hE.one s u (zF q1),q2 _ _ _⟩;have hlt:=hmul i c (by omega) hc;obtain⟨s0,hs0,_⟩:=hat i (by omega);rw [Sort.putCells,Array.getElem?_mapIdx,hkn,cellv i c s0 hs0 hc,Option.map_some,size_flatK,if_pos (by simp [hdll];exact hlt)];have e1:kb.base+(i*k+c) - (kb.base+0*k)=i*k+c:=by omega
       rw [e1,get_flatK _ _ _ _ (by simp [hdll];exact hlt)];have e2:(i*k+c) / k=i:=by rw [Nat.mul_comm,Nat.mul_add_div hE.pos,Nat.div_eq_of_lt hc,Nat.add_zero]
       have e3:(i*k+c) % k=c:=by rw [Nat.mul_comm,Nat.mul_add_mod,Nat.mod_eq_of_lt hc]
       rw [e2,e3];show some (id ((encV (dl.toArray[i]!).1)[c]!))=some u;have e4:(dl.toArray[i]!).1=s:=by
        rw [getElem!_pos dl.toArray i (by simp;omega)];have:=hs;rw [←hmap,List.getElem?_map,Option.map_eq_some_iff] at this;obtain⟨z,hz,rfl⟩:=this;simp only [List.getElem_toArray];rw [(zA.1 hz).2]
       rw [e4,List.getElem!_eq_getElem?_getD,q1];rfl)
     obtain⟨r1,ev1⟩:=keyr;obtain⟨r2,ev2⟩:=Jc r1 os;refine⟨.tup [],_,J,_,rfl,r2,.tup [] [] rfl (by simp),ev1.trans ev2,rfl,?_,by simp,fun b' o' ho hne=> ?_⟩
     ·refine Ls.own (zI (zA.1 hb).1) hlb (by simp [hsl]) fun e he=> ?_;obtain⟨s,_,rfl⟩:=List.mem_map.1 he;exact hE.len s
     ·rw [zJ (by rintro rfl;exact hne _ _ rfl)];exact ho
end Go.Abs
end
section
namespace Go.Abs
open Go Go.Proofs Go.Shelf Go.RowKit Go.Lib Go.Sort
end Go.Abs
end
end
section
namespace Go.Proofs.YtkpioblbeiaefaaGreat
open Go Go.Abs Go.Shelf Go.Proofs
def yO:Ren:=⟨fun | 6=>199 | 15=>122 | 14=>206 | 28=>159 | 29=>160 | 20=>207 | 21=>208 | 22=>209 | 23=>210 | 24=>211 | 25=>212 | 26=>213 | 27=>214 | 46=>215 | 47=>175 | 48=>176 | 49=>216 | 50=>217 | 57=>218 | n=>n,fun | 22=>225 | 24=>228 | 25=>248 | 3=>3 | 39=>160 | 0=>0 | 53=>198 | 55=>200 | 4=>4 | 46=>191 | 45=>190 | 50=>195 | 5=>5 | 9=>9 | 66=>213 | 70=>217 | 76=>234 | 77=>235 | n=>n,fun n=>n⟩
theorem Mg:SlLaysF0.n6 Tryz.prog yO:= {
 mixed:=by kernel_rfl,
 f6:=⟨Tryz.f199.name,by decide,Tryz.func199.trans (congrArg some (by kernel_rfl))⟩,
 f14:=⟨Tryz.f206.name,by decide,Tryz.func206.trans (congrArg some (by kernel_rfl))⟩,
 f15:=Tryz.func122.trans (congrArg some (by kernel_rfl)),
 f20:=⟨Tryz.f207.name,by decide,Tryz.func207.trans (congrArg some (by kernel_rfl))⟩,
 f21:=⟨Tryz.f208.name,by decide,Tryz.func208.trans (congrArg some (by kernel_rfl))⟩,
 f22:=⟨Tryz.f209.name,by decide,Tryz.func209.trans (congrArg some (by kernel_rfl))⟩,
 f23:=⟨Tryz.f210.name,by decide,Tryz.func210.trans (congrArg some (by kernel_rfl))⟩,
 f24:=⟨Tryz.f211.name,by decide,Tryz.func211.trans (congrArg some (by kernel_rfl))⟩,
 f25:=⟨Tryz.f212.name,by decide,Tryz.func212.trans (congrArg some (by kernel_rfl))⟩,
 f26:=⟨Tryz.f213.name,by decide,Tryz.func213.trans (congrArg some (by kernel_rfl))⟩,
 f27:=⟨Tryz.f214.name,by decide,Tryz.func214.trans (congrArg some (by kernel_rfl))⟩,
 f28:=Tryz.func159.trans (congrArg some (by kernel_rfl)),
 f29:=Tryz.func160.trans (congrArg some (by kernel_rfl)),
 f46:=⟨Tryz.f215.name,by decide,Tryz.func215.trans (congrArg some (by kernel_rfl))⟩,
 f47:=Tryz.func175.trans (congrArg some (by kernel_rfl)),
 f48:=Tryz.func176.trans (congrArg some (by kernel_rfl)),
 f49:=⟨Tryz.f216.name,by decide,Tryz.func216.trans (congrArg some (by kernel_rfl))⟩,
 f50:=⟨Tryz.f217.name,by decide,Tryz.func217.trans (congrArg some (by kernel_rfl))⟩,
 f57:=⟨Tryz.f218.name,by decide,Tryz.func218.trans (congrArg some (by kernel_rfl))⟩,
 t0:=Tryz.underlying0,
 a0:=Tryz.isAgg0,
 z0:=Tryz.sizeOf0,
 v0:=Tryz.zeroValue0,
 t3:=Tryz.underlying3,
 a3:=Tryz.isAgg3,
 z3:=Tryz.sizeOf3,
 v3:=Tryz.zeroValue3,
 t4:=Tryz.underlying4,
 a4:=Tryz.isAgg4,
 z4:=Tryz.sizeOf4,
 v4:=Tryz.zeroValue4,
 t5:=Tryz.underlying5,
 a5:=Tryz.isAgg5,
 z5:=Tryz.sizeOf5,
 v5:=Tryz.zeroValue5,
 t9:=Tryz.underlying9,
 a9:=Tryz.isAgg9,
 z9:=Tryz.sizeOf9,
 v9:=Tryz.zeroValue9,
 t22:=Tryz.underlying225,
 a22:=Tryz.isAgg225,
 z22:=Tryz.sizeOf225,
 v22:=Tryz.zeroValue225,
 t25:=Tryz.underlying248,
 a25:=Tryz.isAgg248,
 z25:=Tryz.sizeOf248,
 v25:=Tryz.zeroValue248,
 t39:=Tryz.underlying160,
 a39:=Tryz.isAgg160,
 z39:=Tryz.sizeOf160,
 v39:=Tryz.zeroValue160,
 t45:=Tryz.underlying190,
 a45:=Tryz.isAgg190,
 z45:=Tryz.sizeOf190,
 v45:=Tryz.zeroValue190,
 t46:=Tryz.underlying191,
 a46:=Tryz.isAgg191,
 z46:=Tryz.sizeOf191,
 v46:=Tryz.zeroValue191,
 t50:=Tryz.underlying195,
 a50:=Tryz.isAgg195,
 z50:=Tryz.sizeOf195,
 v50:=Tryz.zeroValue195,
 t53:=Tryz.underlying198,
 a53:=Tryz.isAgg198,
 z53:=Tryz.sizeOf198,
 v53:=Tryz.zeroValue198,
 t55:=Tryz.underlying200,
 a55:=Tryz.isAgg200,
 z55:=Tryz.sizeOf200,
 v55:=Tryz.zeroValue200,
 t66:=Tryz.underlying213,
 a66:=Tryz.isAgg213,
 z66:=Tryz.sizeOf213,
 v66:=Tryz.zeroValue213,
 t70:=Tryz.underlying217,
 a70:=Tryz.isAgg217,
 z70:=Tryz.sizeOf217,
 v70:=Tryz.zeroValue217,
 t76:=Tryz.underlying234,
 a76:=Tryz.isAgg234,
 z76:=Tryz.sizeOf234,
 v76:=Tryz.zeroValue234,
 t77:=Tryz.underlying235,
 a77:=Tryz.isAgg235,
 z77:=Tryz.sizeOf235,
 v77:=Tryz.zeroValue235
}
theorem Pm: ∀w,(isAgg (yO.t 24)).run Tryz.prog w= .ok true w:=Tryz.isAgg228
theorem Mh: ∀w,(Go.sizeOf (yO.t 24)).run Tryz.prog w= .ok 3 w:=Tryz.sizeOf228
end Go.Proofs.YtkpioblbeiaefaaGreat
end
section
namespace Go.Proofs
open Go.Shelf Go.RowKit Go.Lib Go.Sort Go.Toll Go.Abs
def YtkpioblbeiaefaaGreat.encRoadV (r:jE):List Value:=[.int .i64 r.to,.int .i64 r.min,.int .i64 r.max]
theorem YtkpioblbeiaefaaGreat.encV_road:Wh 3 bH YtkpioblbeiaefaaGreat.encRoadV:=by
 refine⟨by omega,fun _=>rfl,fun _=>rfl,fun x v hv=> ?_,fun x c y hy=> ?_⟩
 ·simp [YtkpioblbeiaefaaGreat.encRoadV] at hv;rcases hv with rfl | rfl | rfl <;> rfl
 ·have key: ∀n:Int,(∀J O w,aL J O w (.int .i64 n) (.int .i64 n))∧ ∀J O w v,aL J O w (.int .i64 n) v→v= .int .i64 n:=fun n=>⟨fun J O w=> .int _ _,fun J O w v h=>by cases h;rfl⟩
  match c,hy with
  | 0,hy=>simp at hy;subst hy;exact⟨_,rfl,key _⟩
  | 1,hy=>simp at hy;subst hy;exact⟨_,rfl,key _⟩
  | 2,hy=>simp at hy;subst hy;exact⟨_,rfl,key _⟩
  | (c+3),hy=>simp at hy
set_option maxHeartbeats 1000000 in
theorem YtkpioblbeiaefaaGreat.cmp_road (x y:jE)(hx:0≤x.to∧x.to≤1000)(hy:0≤y.to∧y.to≤1000)(W:World):Calls Tryz.prog 200 #[.agg (YtkpioblbeiaefaaGreat.encRoadV x).toArray,.agg (YtkpioblbeiaefaaGreat.encRoadV y).toArray] W fun e w'=>e= .returned (.int .i64 (x.to - y.to))∧ ∃q os',w'=grow (W.drewN q) os':=by
 have ew:IntKind.i64.wrap (x.to - y.to)=x.to - y.to:=aC (by omega) (by omega);unfold YtkpioblbeiaefaaGreat.encRoadV
 go_enter Tryz.func200,Tryz.ntmps200
 go_wp2
 go_ret
 refine⟨by rw [←ew];rfl,0,_,by rw [alloc_eq_grow,alloc_eq_grow,grow_grow];rfl⟩
end Go.Proofs
namespace Go.Proofs.YtkpioblbeiaefaaGreat
open Go Go.Abs Go.Toll
variable {gl : aM} {h : af}
theorem Ak (rows:List jE)(hr: ∀r∈rows,0≤r.to∧r.to≤1000)(hnd:(rows.map (·.to)).Nodup)(hl:rows.length≤1000000) {lo:Nat} {x:AV} (hx:Ls 3 lo h x (rows.map bH)):
  aa Tryz.prog gl 199 [x,.fn (.func 200) [] []] h fun v h'=>v= .tup []∧Ls 3 lo h' x ((rows.mergeSort fun a b=>decide (a.to≤b.to)).map bH)∧h'.length=h.length∧ ∀(b:Nat) (o:bY),h[b]? =some o→(∀off len,x≠ .own b off len)→h'[b]? =some o:=
 Rx Mg 3 Pm Mh bH encRoadV encV_road (·.to) 200 (enters_of Tryz.func200 (by kernel_rfl) rfl) rows (fun x hx y hy W=>cmp_road x y (hr x hx) (hr y hy) W) hnd (by omega) hx
end Go.Proofs.YtkpioblbeiaefaaGreat
end
section
namespace Go.Proofs.YtkpioblbeiaefaaGreat
open Go Go.Abs Go.Toll
variable {gl : aM} {h : af}
structure yX (h H:af)(n:bn)(x:AV)(kvs:List (AV×AV))(y:AV):Prop where
 net:H[h.length]? =some (.cells 2 [bU n])
 res:H[h.length+1]? =some (.cells 3 [[.nil,.lit (.map none),.nil]])
 map:H[h.length+2]? =some (.map kvs)
 rr:H[h.length+3]? =some (.cells 3 [[x,.map (h.length+2),y]])
 base: ∃g,H=h++g
section
variable {H H' : af} {n : bn} {x x' y y' : AV} {kvs kvs' : List (AV × AV)}
theorem yX.len (p:yX h H n x kvs y):h.length+3<H.length:=(zA.1 p.rr).1
theorem yX.at (p:yX h H n x kvs y):(H[h.length]? =some (.cells 2 [bU n])∧H[h.length+1]? =some (.cells 3 [[.nil,.lit (.map none),.nil]])∧H[h.length+2]? =some (.map kvs)∧H[h.length+3]? =some (.cells 3 [[x,.map (h.length+2),y]]))∧
  (h.length<H.length∧h.length+1<H.length∧h.length+2<H.length∧h.length+3<H.length)∧
  (∀hl:h.length<H.length,H[h.length]= .cells 2 [bU n])∧(∀hl:h.length+1<H.length,H[h.length+1]= .cells 3 [[.nil,.lit (.map none),.nil]])∧(∀hl:h.length+2<H.length,H[h.length+2]= .map kvs)∧ ∀hl:h.length+3<H.length,H[h.length+3]= .cells 3 [[x,.map (h.length+2),y]]:=by
 have hl:=p.len;refine⟨⟨p.net,p.res,p.map,p.rr⟩,⟨by omega,by omega,by omega,hl⟩,fun _=> ?_,fun _=> ?_,fun _=> ?_,fun _=> ?_⟩
 ·exact (zA.1 p.net).2
 ·exact (zA.1 p.res).2
 ·exact (zA.1 p.map).2
 ·exact (zA.1 p.rr).2
theorem yX.keep (p:yX h H n x kvs y)(hk: ∀b o,b<h.length+4→H[b]? =some o→H'[b]? =some o)(hb: ∃g,H'=h++g):yX h H' n x kvs y:=
 ⟨hk _ _ (by omega) p.net,hk _ _ (by omega) p.res,hk _ _ (by omega) p.map,hk _ _ (by omega) p.rr,hb⟩
theorem yX.more (p:yX h H n x kvs y)(g:af):yX h (H++g) n x kvs y:=
 p.keep (fun b o _ ho=>by rw [zC (zA.1 ho).1];exact ho) (by obtain⟨g',rfl⟩:=p.base;exact⟨g'++g,by rw [zK]⟩)
theorem yX.setR (p:yX h H n x kvs y)(x' y':AV):yX h (H.set (h.length+3) (.cells 3 [[x',.map (h.length+2),y']])) n x' kvs y':=by
 have hl:=p.len;refine⟨?_,?_,?_,zI hl,?_⟩
 ·rw [zJ (by omega)];exact p.net
 ·rw [zJ (by omega)];exact p.res
 ·rw [zJ (by omega)];exact p.map
 ·obtain⟨g,rfl⟩:=p.base;exact⟨_,List.set_append_right _ _ (by omega)⟩
theorem yX.setM (p:yX h H n x kvs y)(kvs':List (AV×AV)):yX h (H.set (h.length+2) (.map kvs')) n x kvs' y:=by
 have hl:=p.len;refine⟨?_,?_,zI (by omega),?_,?_⟩
 ·rw [zJ (by omega)];exact p.net
 ·rw [zJ (by omega)];exact p.res
 ·rw [zJ (by omega)];exact p.rr
 ·obtain⟨g,rfl⟩:=p.base;exact⟨_,List.set_append_right _ _ (by omega)⟩
theorem yX.hi (p:yX h H n x kvs y) {b:Nat} {o:bY} (hb:h.length+4≤b):yX h (H.set b o) n x kvs y:=by
 refine p.keep (fun b' o' hb' ho=>by rw [zJ (by omega)];exact ho) ?_;obtain⟨g,rfl⟩:=p.base;exact⟨_,List.set_append_right _ _ (by omega)⟩
theorem yX.grow {lo:Nat} {s:AV} (p:yX h H n x kvs y)(g:Grow lo H s H')(hlo:h.length≤lo)(hs: ∀b off len,s= .own b off len→h.length+4≤b):yX h H' n x kvs y:=
 p.keep (fun b o hb ho=>g.keep b o ho (fun off len e=>by have:=hs b off len e;omega)) (g.base h hlo p.base)
end
def JA:Nat→Option (List (Nat×Nat)):=fun i=>if i=20 then some [(1,19),(1,20),(4,19),(6,19),(7,19)] else none
set_option maxHeartbeats 4000000 in
theorem om (n:bn)(hp:n.pts.length≤1000)(hl:n.lks.length≤1000):aa Tryz.prog gl 186 [.agg (bU n)] h fun v h'=> ∃m g,v= .agg (aU (cu n) m)∧h'=h++g∧h.length≤m∧h'[m]? =some (.map (sM iq (Iw (cu n)))):=by
 refine aa.freeze (R:=fun x h'=> ∃a y c rs g,x= .agg [a,.map (h.length+2),y]∧h'=h++g∧h'[h.length+2]? =some (.map (sM iq (Iw (cu n))))∧Ls 1 (h.length+4) h' a ((bB (cu n)).map aO)∧eQ 3 (h.length+4) h' y c rs∧rs=(u7 (cu n)).map fun r=>r.map bH) ?_ ?_
 ·refine aa.bodyL JA Tryz.f186 _ mixed Tryz.func186 rfl rfl (by simp [Tryz.ntmps186]) ?_;simp;refine ax.pure _ (fun _=>sH n hp hl) ?_;simp;refine⟨fun hz=> ?_,fun hz=> ?_⟩
  ·have hv:cu n=⟨[],[]⟩:=by rw [cu,if_neg hz]
   have e1:bB ⟨[],[]⟩=[]:=List.mergeSort_nil;rw [hv];exact⟨.nil,.nil,⟨rfl,rfl⟩,by rw [Iw,e1];rfl,by rw [e1];exact Ls.nil,[],by rw [u7,e1];exact eQ.nil⟩
  ·have hv:cu n=n:=by rw [cu,if_pos hz]
   have ok:=uk hz;rw [hv];refine aT.upL JA mixed n.pts.length (fun i fr h'=>fr 1= .ptr h.length 0 0∧fr 2= .ptr (h.length+1) 0 0∧fr 3= .ptr (h.length+3) 0 0∧fr 20= .ro (n.pts.map jI)∧fr 21= .int .i64 n.pts.length∧fr 22= .int .i64 i∧
    ∃x,yX h h' n x [] .nil∧Ls 1 (h.length+4) h' x ((Ew n i).map aO)) 0 (by omega) ⟨by simp,by simp,by simp,by simp,by simp,by simp,.nil,⟨by simp,by simp,by simp,by simp,by simp⟩,Ls.nil⟩ ?_
   rintro i fr H hi ⟨e1,e2,e3,e20,e21,e22,x,hP,hL⟩;have hPl:=hP.len;have hf:=hL.rs.fix;rcases zN i n.pts.length with hlt | hge
   ·obtain⟨p,hg,hg'⟩:=aJ hlt;have ew:=aB (i:=i) (by omega);have hP1:=hP.more [.cells 3 [jI p]];simp [-aj,-au,-ah,-AV.solid,JA,e1,e2,e3,e20,e21,e22,hlt,hg,hg',hP.at,hf];refine mV (lo:=h.length+4) (n:=1) (es:=(Ew n i).map aO) (ys:=[aO p.name]) (by simpa [aO] using hL.more [.cells 3 [jI p],.cells 1 [aO p.name]]) (by simp;omega) (by simp [bE,aO]) (by have:=QT n i;simp;omega) ?_;intro s1 H1 hs1 hg1;have hs1f:=hs1.rs.fix;have hP2:=(hP.more [.cells 3 [jI p],.cells 1 [aO p.name]]).grow (by simpa [aO] using hg1) (by omega) hL.above;have hPl2:=hP2.len;simp [-aj,-au,-ah,-AV.solid,JA,e1,e2,e3,e20,e21,e22,hlt,hg,hg',hP2.at,hs1f,ew];refine⟨i+1,by omega,by omega,by omega,s1,hP2.setR _ _,?_⟩;have:=hs1.put (b:=h.length+3) (o:= .cells 3 [[s1,.map (h.length+2),.nil]]) (by omega);rw [OV hg];simpa using this
   ·obtain rfl:i=n.pts.length:=by omega
    rw [QS] at hL;simp [-aj,-au,-ah,-AV.solid,JA,e1,e2,e3,e20,e21,e22,hP.at,hf];refine ax.any (xI (n.pts.map (·.name)) hL (by simp;omega)) ?_;rintro v H1 ⟨rfl,hL1,hlen1,hk1⟩;have hP1:=hP.keep (H':=H1) (fun b o hb ho=>hk1 b o ho fun off len e=>by have:=hL.above b off len e;omega) (jR hP.base (fun b o hb ho=>hk1 b o ho fun off len e=>by have:=hL.above b off len e;omega) (by omega));have hPl1:=hP1.len;rw [show ku (n.pts.map (·.name))=bB n from rfl] at hL1;have hf1:=hL1.rs.fix;simp [-aj,-au,-ah,-AV.solid,JA,e1,e2,e3,hP1.at,hf1,hL1.rs.len2];have hpl:=lI n;refine aT.upL JA mixed (bB n).length (fun i fr h'=>fr 1= .ptr h.length 0 0∧fr 2= .ptr (h.length+1) 0 0∧fr 3= .ptr (h.length+3) 0 0∧fr 38=x∧fr 39= .int .i64 (bB n).length∧fr 40= .int .i64 i∧
     yX h h' n x (Eu n i) .nil∧Ls 1 (h.length+4) h' x ((bB n).map aO)) 0 (by omega) ⟨by simp [e1],by simp [e2],by simp [e3],by simp,by simp,by simp,hP1,hL1⟩ ?_
    clear hP hL hf e1 e2 e3 e20 e21 e22 hP1 hL1 hf1 hPl hPl1 hlen1 hk1 hi hge;rintro i fr H hi ⟨e1,e2,e3,e38,e39,e40,hP,hL⟩;have hf:=hL.rs.fix;have hPl:=hP.len;rcases zN i (bB n).length with hlt | hge
    ·obtain⟨s,hs,hs'⟩:=aJ hlt;have ew:=aB (i:=i) (by omega);have rx:=Rs.ix Tryz.prog hL.rs i (by omega) (y:=aO s) (by simp [hs]);have hset:=OM ok hs;have hkok:bg Tryz.prog 9 (.str s) (Eu n i):=by
      refine⟨by simp [dE],[.str],by simp,by simp,fun p hp=> ?_⟩;obtain⟨q,_,rfl⟩:=yA _ hp;simp
     have hPm:=hP.setM (Eu n (i+1));have hLm:=hL.put (b:=h.length+2) (o:= .map (Eu n (i+1))) (by omega);simp [-aj,-au,-ah,-AV.solid,-bg,JA,e1,e2,e3,e38,e39,e40,hlt,hP.at,hf,rx,aO,hset,hkok,ew];exact⟨i+1,by omega,by omega,by omega,hPm,hLm⟩
    ·obtain rfl:i=(bB n).length:=by omega
     rw [QI] at hP;simp [-aj,-au,-ah,-AV.solid,JA,e1,e2,e3,e38,e39,e40,hP.at,hf,hL.rs.len2];refine⟨by omega,?_⟩;obtain⟨M,hM⟩: ∃M,M=H.length:=⟨_,rfl⟩;have hxM: ∀b off len,x= .own b off len→b<M:=fun b off len e=>by rw [hM];exact hL.rs.lt e
     have hMl:h.length+4≤M:=by omega
     rw [←hM];refine aT.upL JA mixed n.lks.length (fun j fr h'=>fr 1= .ptr h.length 0 0∧fr 2= .ptr (h.length+1) 0 0∧fr 3= .ptr (h.length+3) 0 0∧fr 56= .ro (n.lks.map ja)∧fr 57= .int .i64 n.lks.length∧fr 58= .int .i64 j∧
      ∃cs,yX h h' n x (sM iq (Iw n)) (.own M 0 cs.length)∧Ls 1 (h.length+4) h' x ((bB n).map aO)∧eQ 3 M h' (.own M 0 cs.length) cs (Ai n j)∧NL 3 M h' cs (Ai n j)∧cs.length=(bB n).length) 0 (by omega)
      ⟨by simp [e1],by simp [e2],by simp [e3],by simp,by simp,by simp,List.replicate (bB n).length .nil,?_,?_,?_,?_,by simp⟩ ?_
     ·have:=(hP.setR x (.own M 0 (bB n).length)).more [.cells 1 (List.replicate (bB n).length [.nil])];simpa using this
     ·exact (hL.put (by omega)).more _
     ·have hq:=(eQ.nils (n:=3) (m:=(bB n).length) (H:=H.set (h.length+3) (.cells 3 [[x,.map (h.length+2),.own M 0 (bB n).length]])) (lo:=M) (by simp [hM])).1;rw [FK];simpa [hM] using hq
     ·have hq:=(eQ.nils (n:=3) (m:=(bB n).length) (H:=H.set (h.length+3) (.cells 3 [[x,.map (h.length+2),.own M 0 (bB n).length]])) (lo:=M) (by simp [hM])).2;rw [FK];exact hq
     clear hP hL hf e1 e2 e3 e38 e39 e40 hPl hi hge;rintro j fr H hj ⟨e1,e2,e3,e56,e57,e58,cs,hP,hL,hN,hNL,hcl⟩;have hPl:=hP.len;rcases zN j n.lks.length with hlt | hge
     ·obtain⟨l,hl0,hl1⟩:=aJ hlt;have ew:=aB (i:=j) (by omega);obtain⟨w1,w2,w3⟩:=ok.ends l (zF hl0);have hk1:gp (sM iq (Iw n)) (.str l.src)=some (.int .i64 (aZ n l.src)):=by rw [jP,BP,if_pos w1];rfl
      have hk2:gp (sM iq (Iw n)) (.str l.dst)=some (.int .i64 (aZ n l.dst)):=by rw [jP,BP,if_pos w2];rfl
      have hkok: ∀s,bg Tryz.prog 9 (.str s) (sM iq (Iw n)):=fun s=>by
       refine⟨by simp [dE],[.str],by simp,by simp,fun p hp=> ?_⟩;obtain⟨q,_,rfl⟩:=yA _ hp;simp
      have hpl2:=dG w1;rw [←hcl] at hpl2;obtain⟨c,hc,hc'⟩:=aJ hpl2;have hrg:=Q9 (j:=j) w1;have hLc:=hNL _ _ _ hc hrg;have hcf:=hLc.rs.fix;have hB:=hN.blk;simp [-aj,-au,-ah,-AV.solid,-bg,JA,e1,e2,e3,e56,e57,e58,hlt,hl0,hl1,hP.at,hkok,hk1,hk2,hB,hpl2,hc,hc',hcf];refine⟨by decide,?_⟩;refine aN (lo:=M) (n:=3) (es:=Q6 n j l.src) (ys:=[bH (bi n l)]) (by simpa [bi] using hLc.more [.cells 4 [ja l],.cells 3 [bH (bi n l)]]) (by simp;omega) (by simp [bE,bi]) (by have:=Q7 n j l.src;simp;omega) ?_;intro s1 H1 hs1 hg1 hn1;have hs1f:=hs1.rs.fix;obtain⟨hN1,hNL1⟩:=QE (os:=[.cells 4 [ja l],.cells 3 [bH (bi n l)]]) hN hNL hc hrg hs1 (by simpa [bi] using hg1) (by simpa [bi] using hn1);have hP2:=(hP.more [.cells 4 [ja l],.cells 3 [bH (bi n l)]]).grow (by simpa [bi] using hg1) (by omega) (fun b off len e=>by have:=hLc.above b off len e;omega);have hL2:=(hL.more [.cells 4 [ja l],.cells 3 [bH (bi n l)]]).grow (by simpa [bi] using hg1) (fun b e _ off len e'=>by have:=hxM _ _ _ e;have:=hLc.above _ _ _ e';omega);have hP3:=hP2.hi (b:=M) (o:= .cells 1 ((cs.map fun c=>[c]).set (aZ n l.src) [s1])) (by omega);have hlen1:=hg1.len;have hB1:=hN.blk1 (os:=[.cells 4 [ja l],.cells 3 [bH (bi n l)]]) hc hrg (by simpa [bi] using hg1);simp [-aj,-au,-ah,-AV.solid,-bg,JA,e1,e2,e3,e56,e57,e58,hlt,hl0,hl1,hP.at,hkok,hk1,hk2,hB,hpl2,hc,hc',hcf,hP2.at,hs1f,ew,hB1];refine⟨j+1,by omega,by omega,by omega,cs.set (aZ n l.src) s1,by simpa using hP3,hL2.keep' fun b len o e ho=>by rw [zJ (by have:=hxM _ _ _ e;omega)];exact ho,?_,?_,by simp [hcl]⟩
      ·rw [FJ ok hl0];simpa using hN1
      ·rw [FJ ok hl0];exact hNL1
     ·obtain rfl:j=n.lks.length:=by omega
      rw [←OG] at hN hNL;simp [-aj,-au,-ah,-AV.solid,-bg,JA,e1,e2,e3,e56,e57,e58,hP.at];refine aT.upL JA mixed cs.length (fun i fr h'=>fr 1= .ptr h.length 0 0∧fr 2= .ptr (h.length+1) 0 0∧fr 3= .ptr (h.length+3) 0 0∧fr 90= .own M 0 cs.length∧fr 91= .int .i64 cs.length∧fr 92= .int .i64 i∧
       yX h h' n x (sM iq (Iw n)) (.own M 0 cs.length)∧Ls 1 (h.length+4) h' x ((bB n).map aO)∧eQ 3 M h' (.own M 0 cs.length) cs (Ae n i)∧NL 3 M h' cs (Ae n i)) 0 (by omega)
       ⟨by simp [e1],by simp [e2],by simp [e3],by simp,by simp,by simp,hP,hL,hN,hNL⟩ ?_
      clear hP hL hN hNL e1 e2 e3 e56 e57 e58 hPl hge hj;rintro i fr H hi ⟨e1,e2,e3,e90,e91,e92,hP,hL,hN,hNL⟩;have hPl:=hP.len;have hB:=hN.blk;rcases zN i cs.length with hlt | hge
      ·obtain⟨c,hc,hc'⟩:=aJ hlt;obtain⟨s,hs,_⟩:=aJ (l:=bB n) (i:=i) (by omega);have hrg:=QA hs;have hLc:=hNL _ _ _ hc hrg;have hcf:=hLc.rs.fix;have ew:=aB (i:=i) (by omega);simp [-aj,-au,-ah,-AV.solid,-bg,JA,e1,e2,e3,e90,e91,e92,hlt,hP.at,hB,hc,hc',hcf];refine ax.any (Ak (Tc n s) (fun r hr=> ?_) (O8 ok s) ?_ hLc) ?_
       ·obtain⟨z,hz,rfl⟩:=List.mem_map.1 hr;have:=dG (ok.ends z (List.mem_filter.1 hz).1).2.1;simp only [bi];omega
       ·rw [Tc,List.length_map];exact Nat.le_trans (List.length_filter_le _ _) (by omega)
       ·rintro v H1 ⟨rfl,hLc1,hlen1,hk1⟩;rw [show (Tc n s).mergeSort (fun a b=>decide (a.to≤b.to))=rowOf n s from LY ok s] at hLc1;obtain⟨hN1,hNL1⟩:=OH hN hNL hc hLc1 hk1;rw [OE hs] at hN1 hNL1;have hP1:=hP.keep (H':=H1) (fun b o hb ho=>hk1 b o ho fun off len e=>by have:=hLc.above b off len e;omega) (jR hP.base (fun b o hb ho=>hk1 b o ho fun off len e=>by have:=hLc.above b off len e;omega) (by omega));have hL1:Ls 1 (h.length+4) H1 x ((bB n).map aO):=hL.keep' fun b len o e ho=>hk1 b o ho fun off len' e'=>by have:=hxM _ _ _ e;have:=hLc.above _ _ _ e';omega
        simp [-aj,-au,-ah,-AV.solid,-bg,JA,e1,e2,e3,e90,e91,e92,ew];exact⟨i+1,by omega,by omega,by omega,hP1,hL1,hN1,hNL1⟩
      ·obtain rfl:i=cs.length:=by omega
       rw [hcl,Qz,←hcl] at hN;have hxf:=hL.rs.fix;simp [-aj,-au,-ah,-AV.solid,-bg,JA,e1,e2,e3,e90,e91,e92,hP.at,hxf];refine⟨x,_,⟨rfl,rfl⟩,?_,hL.put (by omega),cs,(hN.low hMl).put0 (by omega)⟩;obtain⟨g,rfl⟩:=hP.base;exact⟨_,List.set_append_right _ _ (by omega)⟩
 ·rintro x h' ⟨a,y,c,rs,g,rfl,rfl,hm,hL,hN,rfl⟩;obtain⟨k1,hk1,f1⟩:=hL.lend;obtain⟨k2,hk2,f2⟩:=hN.lend;have hge: ∀b∈k1++k2,h.length+4≤b:=fun b hb=>by
   rcases List.mem_append.1 hb with hb | hb
   ·exact (hk1 b hb).1
   ·exact hk2 b hb
  obtain⟨g',hg'⟩:=kQ (k1++k2) h g fun b hb=>by have:=hge b hb;omega
  refine⟨k1++k2,_,fA.agg' (.cons (f1.more fun b hb=>List.mem_append_left _ hb) (.cons (.same _) (.cons (f2.more fun b hb=>List.mem_append_right _ hb) .nil))),h.length+2,g',?_,hg',by omega,?_⟩
  ·rw [aU,List.map_map];rfl
  ·rw [kR _ _ _ fun hb=>by have:=hge _ hb;omega];exact hm
end Go.Proofs.YtkpioblbeiaefaaGreat
end
section
namespace Go.Proofs.YtkpioblbeiaefaaGreat
open Go Go.Abs Go.Toll
variable {gl : aM} {h : af}
theorem Cb (v:bn)(s:Bytes):bg Tryz.prog 9 (.str s) (sM iq (Iw v)):=by
 refine⟨by simp [dE],[.str],by simp,by simp,fun p hp=> ?_⟩;obtain⟨q,_,rfl⟩:=yA _ hp;simp
theorem Jw (v:bn)(s:Bytes):gp (sM iq (Iw v)) (.str s)=if aF v.pts s=true then some (.int .i64 (aZ v s)) else none:=by
 rw [jP,BP];split <;> rfl
structure xS (h:af)(m:Nat)(v:bn):Prop where
 at':h[m]? =some (.map (sM iq (Iw v)))
theorem xS.lt {h:af} {m:Nat} {v:bn} (p:xS h m v):m<h.length:=(zA.1 p.at').1
theorem xS.all {h:af} {m:Nat} {v:bn} (p:xS h m v):h[m]? =some (.map (sM iq (Iw v)))∧m<h.length∧ ∀hl:m<h.length,h[m]= .map (sM iq (Iw v)):=⟨p.at',p.lt,fun _=>(zA.1 p.at').2⟩
theorem xS.more {h:af} {m:Nat} {v:bn} (p:xS h m v)(g:af):xS (h++g) m v:=⟨by rw [zC p.lt];exact p.at'⟩
structure gF (h H:af)(p m:Nat)(v:bn):Prop where
 rr:H[p]? =some (.cells 3 [aU v m])
 mm:xS H m v
 ple:h.length≤p
 base: ∃g,H=h++g
section
variable {H H' : af} {p m lo : Nat} {v : bn}
theorem gF.all (r:gF h H p m v):(H[p]? =some (.cells 3 [aU v m])∧p<H.length∧ ∀hl:p<H.length,H[p]= .cells 3 [aU v m])∧H[m]? =some (.map (sM iq (Iw v)))∧m<H.length∧ ∀hl:m<H.length,H[m]= .map (sM iq (Iw v)):=
 ⟨⟨r.rr,(zA.1 r.rr).1,fun _=>(zA.1 r.rr).2⟩,r.mm.all⟩
theorem gF.more (r:gF h H p m v)(g:af):gF h (H++g) p m v:=
 ⟨by rw [zC r.all.1.2.1];exact r.rr,r.mm.more g,r.ple,aI r.base g⟩
theorem gF.keep (r:gF h H p m v)(hk: ∀b o,b<lo→H[b]? =some o→H'[b]? =some o)(hp:p<lo)(hm:m<lo)(hb: ∃g,H'=h++g):gF h H' p m v:=
 ⟨hk _ _ hp r.rr,⟨hk _ _ hm r.mm.at'⟩,r.ple,hb⟩
theorem gF.grow {lo':Nat} {s:AV} (r:gF h H p m v)(g:Grow lo' H s H')(hs: ∀b off len,s= .own b off len→lo≤b)(hp:p<lo)(hm:m<lo)(hlo:h.length≤lo'):gF h H' p m v:=
 r.keep (fun b o hb ho=>g.keep b o ho fun off len e=>by have:=hs b off len e;omega) hp hm (g.base h hlo r.base)
theorem gF.new {H0:af} (hM:xS H0 m v)(hB: ∃g,H0=h++g):gF h (H0++[.cells 3 [aU v m]]) H0.length m v:=
 ⟨by simp,hM.more _,bJ hB,aI hB _⟩
end
def uL (v:bn)(a b:Bytes):AV:=match iL v a b with
 | some (p,d)=> .tup [.ro (p.map aO),.int .i64 d,.bool true]
 | none=> .tup [.ro [],.int .i64 0,.bool false]
def numOf (v:bn)(s:Bytes):Int:=if aF v.pts s=true then (aZ v s:Int) else 0
theorem BR (v:bn)(m:Nat)(a b:Bytes)(hm:xS h m v):aa Tryz.prog gl 194 [.agg (aU v m),.str a,.str b] h fun x h'=>x= .tup [.int .i64 (numOf v a),.int .i64 (numOf v b),.bool (aF v.pts a && aF v.pts b)]∧h'=h:=by
 refine aa.data (by simp) (aa.body Tryz.f194 _ mixed Tryz.func194 rfl rfl (by simp [Tryz.ntmps194]) ?_);have hk:=Cb v;have hl:=Jw v;by_cases h1:aF v.pts a=true <;> by_cases h2:aF v.pts b=true <;> simp [-bg,aU,hm.all,hk,hl,h1,h2,numOf]
theorem Mc {v:bn} (ok:aV v) {s:Bytes} (h:aF v.pts s=true):eG s:=by
 have:=QD (ok.name h);unfold eG;omega
end Go.Proofs.YtkpioblbeiaefaaGreat
end
