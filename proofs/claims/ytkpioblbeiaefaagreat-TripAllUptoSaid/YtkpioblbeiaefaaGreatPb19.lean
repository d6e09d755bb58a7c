/- Part 19 of the lemmas below the statements of this seat: TripF, AbsSortF, SortFLay, SortRoad, Roads. -/
import Derived.Test.YtkpioblbeiaefaaGreatPb18
import Derived.Shelf.SlSortCmp.NoneTotal
set_option linter.unusedSectionVars false
set_option linter.unusedVariables false
set_option linter.unusedSimpArgs false
set_option linter.unnecessarySimpa false
set_option maxRecDepth 100000
section
namespace Go.Proofs.YtkpioblbeiaefaaGreat
open Go Go.Abs Go.Toll
variable {gl : aR} {h : ak}
def pE:Nat→Option ug:=fun id=>if id=3 then some (.last 7 [(6,0)]) else if id=6 then some (.last 14 [(7,0)]) else if id=8 then some (.last 12 [(4,7),(11,0),(11,7)]) else if id=11 then some (.last 11 [(4,7)]) else none
structure WkB (w:dG):Prop where
 trips:w.trips.length≤900000
 out:w.out.length≤900000
 opn:w.opn.length≤900
 before:w.before.length≤1000000
 last:w.last.length≤1000000
 stops: ∀x∈w.opn,(0≤x.time∧x.time<68719476736)∧x.point.length≤1000000
theorem Vz (t:bn)(l:List bq)(s:bq):jI t l s=0∨jI t l s=1∨jI t l s=2∨jI t l s=3∨jI t l s=4∨jI t l s=5:=by
 unfold jI;split
 ·simp
 split
 ·simp
 split
 ·split <;> simp
 ·split <;> simp
set_option maxHeartbeats 8000000 in
theorem RA (s:bq) {t:bn} {veh:Bytes} {mb:Nat} {m:List (Bytes×Int)} {b lo:Nat} {tr ou op:AV} {w:dG} (hw:xZ t veh mb m b lo h tr ou op w)(hop:Ls 3 lo h op (w.opn.map aa))(hb:WkB w)
  (hs:(0≤s.time∧s.time<68719476736)∧s.point.length≤1000000) (hp:t.net.pts.length≤1000) (hlk:t.net.lks.length≤1000) (hsy:t.sys.length≤1000):
  af Tryz.prog gl 77 [.ptr b 0 0,.agg (aa s)] h fun v h'=>v= .tup []∧(∃tr' ou' op',xZ t veh mb m b lo h' tr' ou' op' (dA t veh (ut m) w s)∧Ls 3 lo h' op' ((dA t veh (ut m) w s).opn.map aa))∧ ∀h0:ak,h0.length≤lo→ ∀x:ak,h=h0++x→ ∃g,h'=h0++g:=by
 refine af.bodyN pE Tryz.f77 _ mixed Tryz.func77 rfl rfl (by simp [Tryz.ntmps77]) ?_;have hof:=hop.rs.fix;have hlo:=hw.low;have hbl:=aK hw.blk;have hw1:=hw.more [.cells 3 [aa s]];have hop1:=hop.more [.cells 3 [aa s]];have wh:=RJ (gl:=gl) s hw1 hop1 (by have:=hb.opn;omega) hs.1 (fun x hx=>(hb.stops x hx).1) hp hlk hsy;have hK1:qA lo h (h++[.cells 3 [aa s]]):=(qA.refl lo h).more _;simp [pE,-bA,aa];refine ay.pure _ (fun _=>by simpa [aa] using wh) ?_;unfold dA jJ;rcases Vz t w.opn s with q | q | q | q | q | q
 case inr.inr.inr.inr.inr=>
  rw [q];simp [pE,-bA,aa];have hw2:=hw.more [.cells 3 [aa s],.cells 3 [aa s]];refine ay.any (tq 12 [s] (.own (h.length+1) 0 1) (by simpa [aa] using hw2) (Rs.own (es:=[aa s]) (by simp [aa]) (by simp)) (by simp) (by have:=hb.out;omega) hof) ?_;rintro v h' ⟨rfl,⟨ou',hW⟩,hK⟩;have hsx:=hK.stops h.length [aa s] (by simp [aa]);have hK2:qA lo h (h++[.cells 3 [aa s],.cells 3 [aa s]]):=(qA.refl lo h).more _;have hKa:qA lo h h':=hK2.trans hK;have hLs:=hKa.ls hop;have hs3:=at3 hsx;simp only [aa] at hs3;have hb4:=at3 hW.blk;simp only [jO] at hb4;have htf:=hW.trips.rs.fix;have huf:=hW.out.rs.fix;have hpf:=hLs.rs.fix;by_cases c:s.pass=[]
  ·simp [pE,-bA,-ah,-AV.solid,c,hs3,hb4,htf,huf,hpf];exact⟨⟨_,_,_,hW,hLs⟩,fun h0 h1 x e=>hKa.base h0 h1 ⟨x,e⟩⟩
  ·simp [pE,-bA,-ah,-AV.solid,c,hs3,hb4,htf,huf,hpf];exact⟨⟨_,_,_,hW.put (w':= { w with out:=w.out++dV 12 [s],last:=s.pass }) _ rfl rfl,gM hLs hW.blk (by decide) _⟩,fun h0 h1 x e=>(hKa.set hW.blk (by decide) hlo _).base h0 h1 ⟨x,e⟩⟩
 case inr.inr.inr.inr.inl=>
  rw [q];simp [pE,-bA,aa];have hw2:=hw.more [.cells 3 [aa s]];refine ay.any (wu (by simpa [aa] using hw2) (by simpa [aa] using hop1) (by have:=hb.opn;omega) (by have:=hb.out;omega)) ?_;rintro v h1 ⟨rfl,⟨ou1,hW1⟩,hKb⟩;have hsx1:=hKb.stops h.length [aa s] (by simp [aa]);have hs4:=at3 hsx1;simp only [aa] at hs4;have hKc:qA lo h h1:=hK1.trans hKb;simp [pE,-bA,hs4];have hw3:=hW1.more [.cells 3 [aa s]];refine ay.any (tq 10 [s] (.own h1.length 0 1) (by simpa [aa] using hw3) (Rs.own (es:=[aa s]) (by simp [aa]) (by simp)) (by simp) (by have:=hb.out;have:=hb.opn;have:=fH 11 w.opn;simp [wK];omega) (by simp)) ?_;rintro v h' ⟨rfl,⟨ou',hW⟩,hK⟩;have hW:xZ t veh mb m b lo h' tr ou' .nil { w with out:=w.out++(dV 11 w.opn++dV 10 [s]),opn:=[] }:=by simpa [wK] using hW
  have hsx:=hK.stops h.length [aa s] (aJ hsx1 _);have hKd:qA lo h (h1++[.cells 3 [aa s]]):=hKc.more _;have hKa:qA lo h h':=hKd.trans hK;have hLs:Ls 3 lo h' .nil ([].map aa):=Ls.nil;have hs3:=at3 hsx;simp only [aa] at hs3;have hb4:=at3 hW.blk;simp only [jO] at hb4;have htf:=hW.trips.rs.fix;have huf:=hW.out.rs.fix;have hpf:=hLs.rs.fix;by_cases c:s.pass=[]
  ·simp [pE,-bA,-ah,-AV.solid,c,hs3,hb4,htf,huf,hpf];exact⟨⟨_,_,_,hW,hLs⟩,fun h0 h1 x e=>hKa.base h0 h1 ⟨x,e⟩⟩
  ·simp [pE,-bA,-ah,-AV.solid,c,hs3,hb4,htf,huf,hpf];exact⟨⟨_,_,_,hW.put (w':= { w with out:=w.out++(dV 11 w.opn++dV 10 [s]),opn:=[],last:=s.pass }) _ rfl rfl,gM hLs hW.blk (by decide) _⟩,fun h0 h1 x e=>(hKa.set hW.blk (by decide) hlo _).base h0 h1 ⟨x,e⟩⟩
 case inl=>
  rw [q];have hb5:=at3 hw1.blk;have hw2:=hw.more [.cells 3 [aa s],.cells 3 [aa s]];have hb6:=at3 hw2.blk;simp only [jO,aa] at hb5 hb6;simp [pE,au,-ah,-AV.solid,aa,hb5,hb6,hof];refine⟨by decide,?_⟩;refine ay.any (MN [s] (h.length+1) w.last (by simpa [aa] using hw2) (by simp [aa]) (by simp) (by simp) hb.last (by intro x hx;obtain rfl:=List.mem_singleton.1 hx;exact hs.2) (by have:=hb.trips;omega) hof hp hlk hsy) ?_;rintro v h' ⟨rfl,⟨tr',hW⟩,hK⟩;have hsx:=hK.stops h.length [aa s] (by simp [aa]);have hK2:qA lo h (h++[.cells 3 [aa s],.cells 3 [aa s]]):=(qA.refl lo h).more _;have hKa:qA lo h h':=hK2.trans hK;have hLs:=hKa.ls hop;have hs3:=at3 hsx;simp only [aa] at hs3;have hb4:=at3 hW.blk;simp only [jO] at hb4;have htf:=hW.trips.rs.fix;have huf:=hW.out.rs.fix;have hpf:=hLs.rs.fix;by_cases c:s.pass=[]
  ·simp [pE,-bA,-ah,-AV.solid,c,hs3,hb4,htf,huf,hpf];exact⟨⟨_,_,_,hW,hLs⟩,fun h0 h1 x e=>hKa.base h0 h1 ⟨x,e⟩⟩
  ·simp [pE,-bA,-ah,-AV.solid,c,hs3,hb4,htf,huf,hpf];exact⟨⟨_,_,_,hW.put (w':= { w with trips:=w.trips++[iC t veh (ut m) [s] w.last],last:=s.pass }) _ rfl rfl,gM hLs hW.blk (by decide) _⟩,fun h0 h1 x e=>(hKa.set hW.blk (by decide) hlo _).base h0 h1 ⟨x,e⟩⟩
 case inr.inl=>
  rw [q];simp [pE,-bA,aa];refine ay.any (wu (by simpa [aa] using hw1) (by simpa [aa] using hop1) (by have:=hb.opn;omega) (by have:=hb.out;omega)) ?_;rintro v h1 ⟨rfl,⟨ou1,hW1⟩,hKb⟩;have hsx1:=hKb.stops h.length [aa s] (by simp [aa]);have hs4:=at3 hsx1;simp only [aa] at hs4;have hKc:qA lo h h1:=hK1.trans hKb;have hb5:=at3 hW1.blk;have hW2:=hW1.more [.cells 3 [aa s]];have hb6:=at3 hW2.blk;simp only [jO,aa] at hb5 hb6;have htf1:=hW1.trips.rs.fix;have huf1:=hW1.out.rs.fix;have hne:b≠h.length:=by omega
  have hs5:=fun o:cZ=>at3 (get_put (p:=o) hW1.blk hsx1 hne);simp only [aa] at hs5;have hl1:=aK hsx1;have hb1l:=aK hW1.blk;have put1:=fun (la:Bytes)=>(hW1.put (w':= { w with out:=w.out++dV 11 w.opn,opn:=[s],before:=w.last,last:=la }) (.own h1.length 0 1) rfl rfl).more [.cells 3 [aa s]];have ls1: ∀o:cZ,Ls 3 lo (h1.set b o++[.cells 3 [aa s]]) (.own h1.length 0 1) ([s].map aa):=fun o=>Ls.own (by rw [zD (by simp)];simp) (by omega) (by simp) (by simp);have hKa:=fun o:cZ=>(hKc.set hW1.blk (by decide) hlo o).more [.cells 3 [aa s]];by_cases c:s.pass=[]
  ·simp [pE,au,-ah,-AV.solid,hs4,hs5,hb5,hb6,htf1,huf1,hb1l,c];refine⟨⟨by decide,by decide⟩,⟨tr,ou1,.own h1.length 0 1,by simpa [jO,aa,wK,c] using put1 w.last,by simpa [aa,c] using ls1 _⟩,fun h0 h1 x e=>by simpa [aa,c] using (hKa _).base h0 h1 ⟨x,e⟩⟩
  ·simp [pE,au,-ah,-AV.solid,hs4,hs5,hb5,hb6,htf1,huf1,hb1l,c];refine⟨⟨by decide,by decide⟩,⟨tr,ou1,.own h1.length 0 1,by simpa [jO,aa,wK] using put1 s.pass,by simpa [aa] using ls1 _⟩,fun h0 h1 x e=>by simpa [aa] using (hKa _).base h0 h1 ⟨x,e⟩⟩
 case inr.inr.inl=>
  rw [q];have hb5:=at3 hw1.blk;have hw2:=hw.more [.cells 3 [aa s],.cells 3 [aa s]];have hb6:=at3 hw2.blk;simp only [jO,aa] at hb5 hb6;simp [pE,au,-ae,-ai,-ah,-AV.solid,aa,hb5,hb6,hof];have hop2:=hop.more [.cells 3 [aa s],.cells 3 [aa s]];refine⟨⟨by decide,by decide⟩,?_⟩;refine aG (lo:=lo) (n:=3) (es:=w.opn.map aa) (ys:=[aa s]) (by simpa [aa] using hop2) (by simp;omega) (by simp [bu,aa]) (by have:=hb.opn;simp;omega) ?_;intro s1 H1 hs1 hg1 hn1;have hg1:Grow lo (h++[.cells 3 [aa s],.cells 3 [aa s]]) op H1:=by simpa [aa] using hg1
  have hb1:=hg1.keep b _ hw2.blk (oM hop2 hw2.blk (by decide));have hm1:=hg1.keep mb _ hw2.mp (lL hop2 hw2.mp);have ht1:=fO hw2.trips hop2 (by decide) hg1;have ho1:=fO hw2.out hop2 (by decide) hg1;have hW1:xZ t veh mb m b lo H1 tr ou op w:=⟨hb1,hm1,ht1,ho1,hw.low,hw.lom⟩;have hx1:H1[h.length]? =some (.cells 3 [aa s]):=hg1.keep h.length _ (by simp) (fun off len e=>by
   rcases hop.1 with⟨e1,_⟩ | ⟨b',e1,_,hb'⟩
   ·rw [e1] at e;cases e
   ·rw [e1] at e;injection e with e2;have:=aK hb';omega)
  obtain⟨k,hk,hkl,hk1⟩: ∃k,s1= .own k 0 (w.opn++[s]).length∧lo≤k∧H1[k]? =some (.cells 3 ((w.opn++[s]).map aa)):=by
   rcases hs1.1 with⟨_,e⟩ | ⟨k,e,h1,h2⟩
   ·simp at e
   ·exact⟨k,by simpa using e,h1,by simpa using h2⟩
  have hbase: ∀h0:ak,h0.length≤lo→(∃g,h=h0++g)→ ∃g,H1=h0++g:=fun h0 hl hg=>hg1.base h0 hl (aF hg _);subst hk;have hb7:=at3 hb1;have hb0:=at3 hw.blk;simp only [jO] at hb7 hb0;simp [pE,au,-ae,-ai,-ah,-AV.solid,hb7,hb0,hbl];have hal: ∀x∈w.opn++[s],x.point.length≤1000000:=by
   intro x hx;rcases List.mem_append.1 hx with hx | hx
   ·exact (hb.stops x hx).2
   ·rw [List.mem_singleton.1 hx];exact hs.2
  have wa:=MN (gl:=gl) (w.opn++[s]) k w.before hW1 hk1 (by simp) (by have:=hb.opn;simp;omega) hb.before hal (by have:=hb.trips;omega) hof hp hlk hsy;have hlen:(w.opn++[s]).length=w.opn.length+1:=by simp
  rw [hlen] at wa;refine ay.any wa ?_;rintro v h2 ⟨rfl,⟨tr',hW⟩,hK⟩;have hsx:=hK.stops h.length [aa s] hx1;have hs3:=at3 hsx;simp only [aa] at hs3;have hb4:=at3 hW.blk;simp only [jO] at hb4;have htf:=hW.trips.rs.fix;have huf:=hW.out.rs.fix;have hne:b≠h.length:=by omega
  have hs5:=fun o:cZ=>at3 (get_put (p:=o) hW.blk hsx hne);simp only [aa] at hs5;have put1:=fun (la:Bytes)=>(hW.put (w':= { w with trips:=w.trips++[iC t veh (ut m) (w.opn++[s]) w.before],opn:=[],last:=la }) .nil rfl rfl);have hLs: ∀H:ak,Ls 3 lo H .nil ([].map aa):=fun H=>Ls.nil;have hB:=fun (o:cZ) (h0:ak) (h1:h0.length≤lo) (x:ak) (h2:h=h0++x)=>cu (hK.base h0 h1 (hbase h0 h1 ⟨x,h2⟩)) (Nat.le_trans h1 hlo) o;by_cases c:s.pass=[]
  ·simp [pE,-bA,-ah,-AV.solid,c,hs3,hs5,hb4,htf,huf];refine⟨⟨_,_,_,by simpa [jO] using put1 w.last,by simpa [jO] using hLs _⟩,by simpa [jO] using hB _⟩
  ·simp [pE,-bA,-ah,-AV.solid,c,hs3,hs5,hb4,htf,huf];refine⟨⟨_,_,_,by simpa [jO] using put1 s.pass,by simpa [jO] using hLs _⟩,by simpa [jO] using hB _⟩
 case inr.inr.inr.inl=>
  rw [q];have hb5:=at3 hw1.blk;have hw2:=hw.more [.cells 3 [aa s],.cells 3 [aa s]];have hb6:=at3 hw2.blk;simp only [jO,aa] at hb5 hb6;simp [pE,au,-ae,-ai,-ah,-AV.solid,aa,hb5,hb6,hof];have hop2:=hop.more [.cells 3 [aa s],.cells 3 [aa s]];refine⟨by decide,?_⟩;refine aG (lo:=lo) (n:=3) (es:=w.opn.map aa) (ys:=[aa s]) (by simpa [aa] using hop2) (by simp;omega) (by simp [bu,aa]) (by have:=hb.opn;simp;omega) ?_;intro s1 H1 hs1 hg1 hn1;have hg1:Grow lo (h++[.cells 3 [aa s],.cells 3 [aa s]]) op H1:=by simpa [aa] using hg1
  have hb1:=hg1.keep b _ hw2.blk (oM hop2 hw2.blk (by decide));have hm1:=hg1.keep mb _ hw2.mp (lL hop2 hw2.mp);have ht1:=fO hw2.trips hop2 (by decide) hg1;have ho1:=fO hw2.out hop2 (by decide) hg1;have hW:xZ t veh mb m b lo H1 tr ou op w:=⟨hb1,hm1,ht1,ho1,hw.low,hw.lom⟩;have hsx:H1[h.length]? =some (.cells 3 [aa s]):=hg1.keep h.length _ (by simp) (fun off len e=>by
   rcases hop.1 with⟨e1,_⟩ | ⟨b',e1,_,hb'⟩
   ·rw [e1] at e;cases e
   ·rw [e1] at e;injection e with e2;have:=aK hb';omega)
  have hs1f:=hs1.rs.fix;have hbase: ∀h0:ak,h0.length≤lo→(∃g,h=h0++g)→ ∃g,H1=h0++g:=fun h0 hl hg=>hg1.base h0 hl (aF hg _);have hb7:=at3 hb1;have hb0:=at3 hw.blk;have hs3:=at3 hsx;simp only [jO,aa] at hb7 hb0 hs3;have htf:=hW.trips.rs.fix;have huf:=hW.out.rs.fix;have hne:b≠h.length:=by omega
  have hs5:=fun o:cZ=>at3 (get_put (p:=o) hW.blk hsx hne);simp only [aa] at hs5;have put1:=fun (la:Bytes)=>(hW.put (w':= { w with opn:=w.opn++[s],last:=la }) s1 rfl rfl);have hLs: ∀o:cZ,Ls 3 lo (H1.set b o) s1 ((w.opn++[s]).map aa):=fun o=>by
   have h5:Ls 3 lo H1 s1 ((w.opn++[s]).map aa):=by simpa using hs1
   obtain⟨h6,h7⟩:=h5;refine⟨?_,h7⟩;rcases h6 with h6 | ⟨b',e,hl,hb'⟩
   ·exact .inl h6
   ·exact .inr ⟨b',e,hl,get_put hb1 hb' (Xp hb1 hb' (by decide))⟩
  have hB:=fun (o:cZ) (h0:ak) (h1:h0.length≤lo) (x:ak) (h2:h=h0++x)=>cu (hbase h0 h1 ⟨x,h2⟩) (Nat.le_trans h1 hlo) o;by_cases c:s.pass=[]
  ·simp [pE,-bA,au,-ae,-ai,-ah,-AV.solid,c,hb7,hb0,hbl,hs3,hs5,hs1f,htf,huf];refine⟨⟨_,_,_,by simpa [jO] using put1 w.last,by simpa [jO] using hLs _⟩,by simpa [jO] using hB _⟩
  ·simp [pE,-bA,au,-ae,-ai,-ah,-AV.solid,c,hb7,hb0,hbl,hs3,hs5,hs1f,htf,huf];refine⟨⟨_,_,_,by simpa [jO] using put1 s.pass,by simpa [jO] using hLs _⟩,by simpa [jO] using hB _⟩
end Go.Proofs.YtkpioblbeiaefaaGreat
end
section
section
namespace Go.Abs
open Go Go.Proofs Go.Shelf Go.RowKit Go.Lib Go.Sort
structure Yi {β:Type} (k:Nat)(enc:β→List AV)(encV:β→List Value):Prop where
 pos:0<k
 len: ∀x,(enc x).length=k
 lenV: ∀x,(encV x).length=k
 one: ∀x,∀v∈encV x,v.oneCell'=true
 rel: ∀x (c:Nat) y,(enc x)[c]? =some y→ ∃u,(encV x)[c]? =some u∧(∀J O w,aQ J O w y u)∧ ∀J O w v,aQ J O w y v→v=u
theorem Ud {P:Program} {ρ:Ren} {gl:aR} {h:ak} (L:SlLaysF0.n6 P ρ) {β:Type} (k:Nat)(aE: ∀w,(isAgg (ρ.t 24)).run P w= .ok true w)(zE: ∀w,(Go.sizeOf (ρ.t 24)).run P w= .ok k w)(enc:β→List AV)(encV:β→List Value)(hE:Yi k enc encV)
  (key:β→Int) (g:Nat) (eg: ∀args w,(callFunc g args).run P w= .ok (.enter g args) w) (rows:List β)
  (hcmp: ∀x∈rows,∀y∈rows,∀W,Calls P g #[.agg (encV x).toArray,.agg (encV y).toArray] W fun e w'=>e= .returned (.int .i64 (key x - key y))∧ ∃q os',w'=grow (W.drewN q) os')
  (hnd:(rows.map key).Nodup) (hl:rows.length<4611686018427387904) {lo:Nat} {x:AV} (hx:Ls k lo h x (rows.map enc)):
  af P gl (ρ.f 6) [x,.fn (.func g) [] []] h fun v h'=>v= .tup []∧Ls k lo h' x ((rows.mergeSort fun a b=>decide (key a≤key b)).map enc)∧h'.length=h.length∧ ∀(b:Nat) (o:cZ),h[b]? =some o→(∀off len,x≠ .own b off len)→h'[b]? =some o:=by
 refine⟨?_,fun J w vs hh hv=> ?_⟩
 ·obtain⟨nm,hn,hf⟩:=L.f6;exact⟨_,hf,rfl,hn⟩
 ·obtain⟨hvl,hvr⟩:=hv
  match vs,hvl with
  | [v,vf],_=>
   have hr:=hvr 0 _ v rfl rfl;have hrf:=hvr 1 _ vf rfl rfl;have hvf:vf= .func (.func g) #[] #[]:=by
    cases hrf with
    | fn _ _ _ a c h1 h2 _ _=>
     obtain rfl:=List.length_eq_zero_iff.1 h1.symm;obtain rfl:=List.length_eq_zero_iff.1 h2.symm;rfl
   subst hvf;by_cases h0:rows=[]
   ·subst h0;obtain⟨base,cap,hv0⟩: ∃base cap,v= .slice base 0 cap:=by
     rcases hx.1 with⟨rfl,_⟩ | ⟨b,rfl,_⟩
     ·cases hr;exact⟨none,0,rfl⟩
     ·cases hr with
      | own _ _ _ k a cap _ _ _ _=>exact⟨some a,cap,rfl⟩
    subst hv0;refine Calls.mono' (AnyF.slices_SortFunc_none L base cap (.func (.func g) #[] #[]) w) ?_;rintro e w' ⟨rfl,rfl⟩;exact⟨.tup [],_,J,h,rfl,hh,.tup [] [] rfl (by simp),jE.refl _ _ _,rfl,by simpa using hx,rfl,fun _ _ ho _=>ho⟩
   ·have hpos:0<rows.length:=List.length_pos_iff.2 h0;rcases hx.1 with⟨_,he⟩ | ⟨b,rfl,hlb,hb⟩
    ·simp at he;exact absurd he h0
    cases hr with
    | own _ _ _ kb a cap hk ha hle hcap=>
     rw [List.length_map] at hle;have ha':=ha (by omega);subst ha';obtain⟨o1,o2,o3,o4,vs0,T,o5,o6,o7⟩:=hh.obj b kb _ hk hb;have hkn:kb.n=k:=o1;obtain⟨x0,hx0⟩: ∃x0,x0∈rows:=List.exists_mem_of_ne_nil _ h0
     let α:= {x:β // x∈rows}
     haveI:Inhabited α:=⟨⟨x0,hx0⟩⟩;have hmul: ∀i c,i<rows.length→c<k→i*k+c<rows.length*k:=fun i c hi hc=>by
      have:(i+1)*k≤rows.length*k:=Nat.mul_le_mul_right k hi;rw [Nat.add_mul,Nat.one_mul] at this;omega
     have cellv: ∀(i c:Nat) (s:β),rows[i]? =some s→c<k→vs0[kb.base+(i*k+c)]? =some (encV s)[c]! :=fun i c s hs hc=>by
      have hcl:c<(enc s).length:=by rw [hE.len];exact hc
      have hy:(enc s)[c]? =some ((enc s)[c]):=zB hcl;obtain⟨u,p1,p2,p3⟩:=o7 i (enc s) c _ (by rw [List.getElem?_map,hs];rfl) hy;obtain⟨u',q1,q2,q3⟩:=hE.rel s c _ hy;have e1:=q3 _ _ _ _ p3;subst e1;rw [hkn] at p1;rw [p1,List.getElem!_eq_getElem?_getD,q1];rfl
     have hd:(rows.attach.toArray:Array α).size=rows.length:=by simp
     have hat: ∀i,i<rows.length→ ∃s,rows[i]? =some s∧((rows.attach.toArray:Array α)[i]!).1=s:=fun i hi=>by
      refine⟨rows[i],zB hi,?_⟩;rw [getElem!_pos _ i (by rw [hd];exact hi)];simp
     let encA:α→List Value:=fun x=>encV x.1
     have hH:HoldsK encA k w kb.r (kb.base+0*kb.n) (rows.attach.toArray:Array α):=fun t ht=>by
      rw [size_flatK,hd] at ht;rw [get_flatK _ _ _ _ (by rw [hd];exact ht)];have hi:t / k<rows.length:=(Nat.div_lt_iff_lt_mul hE.pos).2 ht;obtain⟨s,hs,hs'⟩:=hat (t / k) hi;have hc:t % k<k:=Nat.mod_lt _ hE.pos;refine⟨?_,by simp [World.frozen?,o5]⟩;rw [cell_of_heap o5,Nat.zero_mul,Nat.add_zero];have:=cellv (t / k) (t % k) s hs hc;rw [Nat.mul_comm,Nat.div_add_mod] at this;rw [this];show _=some ((encV ((rows.attach.toArray:Array α)[t / k]!).1)[t % k]!);rw [hs']
     have hswo:SWO (ltOf fun x y:α=>key x.1 - key y.1):=by
      refine⟨fun x=> ?_,fun x y z h1 h2=> ?_,fun x y z h1 h2=> ?_⟩ <;> simp only [ltOf,decide_eq_true_eq,decide_eq_false_iff_not] at* <;> omega
     have hT: ∀x y:α,(ltOf fun x y:α=>key x.1 - key y.1) x y=false→(ltOf fun x y:α=>key x.1 - key y.1) y x=false→x=y:=by
      rintro⟨x,hx⟩ ⟨y,hy⟩ h1 h2;simp only [ltOf,decide_eq_false_iff_not] at h1 h2;have hk:key x=key y:=by omega
      obtain⟨i,hi⟩:=List.getElem?_of_mem hx;obtain⟨j,hj⟩:=List.getElem?_of_mem hy;have e:i=j:=by
       have a1:(rows.map key)[i]? =some (key x):=by rw [List.getElem?_map,hi];rfl
       have a2:(rows.map key)[j]? =some (key x):=by rw [List.getElem?_map,hj,hk];rfl
       exact vR hnd a1 a2
      subst e;rw [hi] at hj;exact Subtype.ext (Option.some.inj hj)
     have hlays:CmpLays P g #[] encA k (fun x y:α=>key x.1 - key y.1) kb.r (kb.base+0*kb.n) (rows.attach.toArray:Array α).size w:=fun m os dk hdk x y=>hcmp x.1 x.2 y.1 y.2 _;have hcall:=AnyQ.slices_SortFunc_total L k aE zE encA (fun x=>hE.lenV x.1) (fun x=>hE.one x.1) (fun x y:α=>key x.1 - key y.1) hswo g #[] kb.r (kb.base+0*kb.n) cap (rows.attach.toArray:Array α) w eg hlays hH (hh.lt b kb hk) (by rw [hd];exact hl) hT;rw [hd] at hcall;rw [List.length_map] at*;refine Calls.mono' hcall ?_;rintro e w' ⟨rfl,n,os,rfl⟩;obtain⟨srt,hsrt⟩: ∃srt,srt=rows.mergeSort fun a b=>decide (key a≤key b):=⟨_,rfl⟩;obtain⟨dl,hdl⟩: ∃dl:List α,dl=rows.attach.mergeSort fun x y=> !(ltOf (fun x y:α=>key x.1 - key y.1) y x):=⟨_,rfl⟩;have hmap:dl.map Subtype.val=srt:=by
      rw [hdl,hsrt,List.map_mergeSort (r:=fun x y:α=> !(ltOf (fun x y:α=>key x.1 - key y.1) y x)) (s:=fun a b=>decide (key a≤key b)),List.attach_map_subtype_val];intro a _ b _;simp only [ltOf];by_cases h:key a.1≤key b.1
      ·rw [decide_eq_true h,decide_eq_false (by omega)];rfl
      ·rw [decide_eq_false h,decide_eq_true (by omega)];rfl
     have hdll:dl.length=rows.length:=by rw [hdl,List.length_mergeSort,List.length_attach]
     have hsl:srt.length=rows.length:=by rw [hsrt,List.length_mergeSort]
     rw [show (rows.attach.toArray:Array α).toList=rows.attach by simp,←hdl,←hsrt];have hw1:(putRowK encA k (Sort.ahead w n) kb.r (kb.base+0*kb.n) dl.toArray).heap[kb.r]? =some (.cells (Sort.putCells id (kb.base+0*kb.n) (flatK encA k dl.toArray) vs0) T (0,0)):=by
      show (w.heap.modify kb.r _)[kb.r]? =_;rw [Array.getElem?_modify,if_pos rfl,o5];rfl
     have keyr:=hh.set (w':=putRowK encA k (Sort.ahead w n) kb.r (kb.base+0*kb.n) dl.toArray) (.cells k (srt.map enc)) hk hb (by simp) (by show (w.heap.modify kb.r _).size=_;rw [Array.size_modify]) (fun r hr=>by
       show (w.heap.modify kb.r _)[r]? =_;rw [Array.getElem?_modify,if_neg (Ne.symm hr)]) rfl rfl rfl (fun O' hm=>by
      refine⟨hkn,by omega,by rw [List.length_map,hsl];simpa using o3,fun i e he=> ?_,_,T,hw1,?_,fun i e c y he hy=> ?_⟩
      ·obtain⟨s,_,rfl⟩:=List.mem_map.1 (zF he);rw [hE.len,hkn]
      ·rw [Sort.putCells,Array.size_mapIdx];exact o6
      ·rw [List.getElem?_map,Option.map_eq_some_iff] at he;obtain⟨s,hs,rfl⟩:=he;have hil:=(zA.1 hs).1;have hc:c<k:=by rw [←hE.len s];exact (zA.1 hy).1
       obtain⟨u,q1,q2,q3⟩:=hE.rel s c y hy;refine⟨u,?_,hE.one s u (zF q1),q2 _ _ _⟩;have hlt:=hmul i c (by omega) hc;obtain⟨s0,hs0,_⟩:=hat i (by omega);rw [Sort.putCells,Array.getElem?_mapIdx,hkn,cellv i c s0 hs0 hc,Option.map_some,size_flatK,if_pos (by simp [hdll];exact hlt)];have e1:kb.base+(i*k+c) - (kb.base+0*k)=i*k+c:=by omega
       rw [e1,get_flatK _ _ _ _ (by simp [hdll];exact hlt)];have e2:(i*k+c) / k=i:=by rw [Nat.mul_comm,Nat.mul_add_div hE.pos,Nat.div_eq_of_lt hc,Nat.add_zero]
       have e3:(i*k+c) % k=c:=by rw [Nat.mul_comm,Nat.mul_add_mod,Nat.mod_eq_of_lt hc]
       rw [e2,e3];show some (id ((encV (dl.toArray[i]!).1)[c]!))=some u;have e4:(dl.toArray[i]!).1=s:=by
        rw [getElem!_pos dl.toArray i (by simp;omega)];have:=hs;rw [←hmap,List.getElem?_map,Option.map_eq_some_iff] at this;obtain⟨z,hz,rfl⟩:=this;simp only [List.getElem_toArray];rw [(zA.1 hz).2]
       rw [e4,List.getElem!_eq_getElem?_getD,q1];rfl)
     obtain⟨r1,ev1⟩:=keyr;obtain⟨r2,ev2⟩:=K3 r1 os;refine⟨.tup [],_,J,_,rfl,r2,.tup [] [] rfl (by simp),ev1.trans ev2,rfl,?_,by simp,fun b' o' ho hne=> ?_⟩
     ·refine Ls.own (zI (zA.1 hb).1) hlb (by simp [hsl]) fun e he=> ?_;obtain⟨s,_,rfl⟩:=List.mem_map.1 he;exact hE.len s
     ·rw [zJ (by rintro rfl;exact hne _ _ rfl)];exact ho
end Go.Abs
end
section
namespace Go.Abs
open Go Go.Proofs Go.Shelf Go.RowKit Go.Lib Go.Sort
end Go.Abs
end
end
section
namespace Go.Proofs.YtkpioblbeiaefaaGreat
open Go Go.Abs Go.Shelf Go.Proofs
def Ar:Ren:=⟨fun | 6=>199 | 15=>122 | 14=>206 | 28=>159 | 29=>160 | 20=>207 | 21=>208 | 22=>209 | 23=>210 | 24=>211 | 25=>212 | 26=>213 | 27=>214 | 46=>215 | 47=>175 | 48=>176 | 49=>216 | 50=>217 | 57=>218 | n=>n,fun | 22=>225 | 24=>228 | 25=>248 | 3=>3 | 39=>160 | 0=>0 | 53=>198 | 55=>200 | 4=>4 | 46=>191 | 45=>190 | 50=>195 | 5=>5 | 9=>9 | 66=>213 | 70=>217 | 76=>234 | 77=>235 | n=>n,fun n=>n⟩
theorem OA:SlLaysF0.n6 Tryz.prog Ar:= {
 mixed:=by kernel_rfl,
 f6:=⟨Tryz.f199.name,by decide,Tryz.func199.trans (congrArg some (by kernel_rfl))⟩,
 f14:=⟨Tryz.f206.name,by decide,Tryz.func206.trans (congrArg some (by kernel_rfl))⟩,
 f15:=Tryz.func122.trans (congrArg some (by kernel_rfl)),
 f20:=⟨Tryz.f207.name,by decide,Tryz.func207.trans (congrArg some (by kernel_rfl))⟩,
 f21:=⟨Tryz.f208.name,by decide,Tryz.func208.trans (congrArg some (by kernel_rfl))⟩,
 f22:=⟨Tryz.f209.name,by decide,Tryz.func209.trans (congrArg some (by kernel_rfl))⟩,
 f23:=⟨Tryz.f210.name,by decide,Tryz.func210.trans (congrArg some (by kernel_rfl))⟩,
 f24:=⟨Tryz.f211.name,by decide,Tryz.func211.trans (congrArg some (by kernel_rfl))⟩,
 f25:=⟨Tryz.f212.name,by decide,Tryz.func212.trans (congrArg some (by kernel_rfl))⟩,
 f26:=⟨Tryz.f213.name,by decide,Tryz.func213.trans (congrArg some (by kernel_rfl))⟩,
 f27:=⟨Tryz.f214.name,by decide,Tryz.func214.trans (congrArg some (by kernel_rfl))⟩,
 f28:=Tryz.func159.trans (congrArg some (by kernel_rfl)),
 f29:=Tryz.func160.trans (congrArg some (by kernel_rfl)),
 f46:=⟨Tryz.f215.name,by decide,Tryz.func215.trans (congrArg some (by kernel_rfl))⟩,
 f47:=Tryz.func175.trans (congrArg some (by kernel_rfl)),
 f48:=Tryz.func176.trans (congrArg some (by kernel_rfl)),
 f49:=⟨Tryz.f216.name,by decide,Tryz.func216.trans (congrArg some (by kernel_rfl))⟩,
 f50:=⟨Tryz.f217.name,by decide,Tryz.func217.trans (congrArg some (by kernel_rfl))⟩,
 f57:=⟨Tryz.f218.name,by decide,Tryz.func218.trans (congrArg some (by kernel_rfl))⟩,
 t0:=Tryz.underlying0,
 a0:=Tryz.isAgg0,
 z0:=Tryz.sizeOf0,
 v0:=Tryz.zeroValue0,
 t3:=Tryz.underlying3,
 a3:=Tryz.isAgg3,
 z3:=Tryz.sizeOf3,
 v3:=Tryz.zeroValue3,
 t4:=Tryz.underlying4,
 a4:=Tryz.isAgg4,
 z4:=Tryz.sizeOf4,
 v4:=Tryz.zeroValue4,
 t5:=Tryz.underlying5,
 a5:=Tryz.isAgg5,
 z5:=Tryz.sizeOf5,
 v5:=Tryz.zeroValue5,
 t9:=Tryz.underlying9,
 a9:=Tryz.isAgg9,
 z9:=Tryz.sizeOf9,
 v9:=Tryz.zeroValue9,
 t22:=Tryz.underlying225,
 a22:=Tryz.isAgg225,
 z22:=Tryz.sizeOf225,
 v22:=Tryz.zeroValue225,
 t25:=Tryz.underlying248,
 a25:=Tryz.isAgg248,
 z25:=Tryz.sizeOf248,
 v25:=Tryz.zeroValue248,
 t39:=Tryz.underlying160,
 a39:=Tryz.isAgg160,
 z39:=Tryz.sizeOf160,
 v39:=Tryz.zeroValue160,
 t45:=Tryz.underlying190,
 a45:=Tryz.isAgg190,
 z45:=Tryz.sizeOf190,
 v45:=Tryz.zeroValue190,
 t46:=Tryz.underlying191,
 a46:=Tryz.isAgg191,
 z46:=Tryz.sizeOf191,
 v46:=Tryz.zeroValue191,
 t50:=Tryz.underlying195,
 a50:=Tryz.isAgg195,
 z50:=Tryz.sizeOf195,
 v50:=Tryz.zeroValue195,
 t53:=Tryz.underlying198,
 a53:=Tryz.isAgg198,
 z53:=Tryz.sizeOf198,
 v53:=Tryz.zeroValue198,
 t55:=Tryz.underlying200,
 a55:=Tryz.isAgg200,
 z55:=Tryz.sizeOf200,
 v55:=Tryz.zeroValue200,
 t66:=Tryz.underlying213,
 a66:=Tryz.isAgg213,
 z66:=Tryz.sizeOf213,
 v66:=Tryz.zeroValue213,
 t70:=Tryz.underlying217,
 a70:=Tryz.isAgg217,
 z70:=Tryz.sizeOf217,
 v70:=Tryz.zeroValue217,
 t76:=Tryz.underlying234,
 a76:=Tryz.isAgg234,
 z76:=Tryz.sizeOf234,
 v76:=Tryz.zeroValue234,
 t77:=Tryz.underlying235,
 a77:=Tryz.isAgg235,
 z77:=Tryz.sizeOf235,
 v77:=Tryz.zeroValue235
}
theorem Rm: ∀w,(isAgg (Ar.t 24)).run Tryz.prog w= .ok true w:=Tryz.isAgg228
theorem OB: ∀w,(Go.sizeOf (Ar.t 24)).run Tryz.prog w= .ok 3 w:=Tryz.sizeOf228
end Go.Proofs.YtkpioblbeiaefaaGreat
end
section
namespace Go.Proofs
open Go.Shelf Go.RowKit Go.Lib Go.Sort Go.Toll Go.Abs
def YtkpioblbeiaefaaGreat.encRoadV (r:kF):List Value:=[.int .i64 r.to,.int .i64 r.min,.int .i64 r.max]
theorem YtkpioblbeiaefaaGreat.encV_road:Yi 3 bV YtkpioblbeiaefaaGreat.encRoadV:=by
 refine⟨by omega,fun _=>rfl,fun _=>rfl,fun x v hv=> ?_,fun x c y hy=> ?_⟩
 ·simp [YtkpioblbeiaefaaGreat.encRoadV] at hv;rcases hv with rfl | rfl | rfl <;> rfl
 ·have key: ∀n:Int,(∀J O w,aQ J O w (.int .i64 n) (.int .i64 n))∧ ∀J O w v,aQ J O w (.int .i64 n) v→v= .int .i64 n:=fun n=>⟨fun J O w=> .int _ _,fun J O w v h=>by cases h;rfl⟩
  match c,hy with
  | 0,hy=>simp at hy;subst hy;exact⟨_,rfl,key _⟩
  | 1,hy=>simp at hy;subst hy;exact⟨_,rfl,key _⟩
  | 2,hy=>simp at hy;subst hy;exact⟨_,rfl,key _⟩
  | (c+3),hy=>simp at hy
set_option maxHeartbeats 1000000 in
theorem YtkpioblbeiaefaaGreat.cmp_road (x y:kF)(hx:0≤x.to∧x.to≤1000)(hy:0≤y.to∧y.to≤1000)(W:World):Calls Tryz.prog 200 #[.agg (YtkpioblbeiaefaaGreat.encRoadV x).toArray,.agg (YtkpioblbeiaefaaGreat.encRoadV y).toArray] W fun e w'=>e= .returned (.int .i64 (x.to - y.to))∧ ∃q os',w'=grow (W.drewN q) os':=by
 have ew:IntKind.i64.wrap (x.to - y.to)=x.to - y.to:=aD (by omega) (by omega);unfold YtkpioblbeiaefaaGreat.encRoadV
 go_enter Tryz.func200,Tryz.ntmps200
 go_wp2
 go_ret
 refine⟨by rw [←ew];rfl,0,_,by rw [alloc_eq_grow,alloc_eq_grow,grow_grow];rfl⟩
end Go.Proofs
namespace Go.Proofs.YtkpioblbeiaefaaGreat
open Go Go.Abs Go.Toll
variable {gl : aR} {h : ak}
theorem BX (rows:List kF)(hr: ∀r∈rows,0≤r.to∧r.to≤1000)(hnd:(rows.map (·.to)).Nodup)(hl:rows.length≤1000000) {lo:Nat} {x:AV} (hx:Ls 3 lo h x (rows.map bV)):
  af Tryz.prog gl 199 [x,.fn (.func 200) [] []] h fun v h'=>v= .tup []∧Ls 3 lo h' x ((rows.mergeSort fun a b=>decide (a.to≤b.to)).map bV)∧h'.length=h.length∧ ∀(b:Nat) (o:cZ),h[b]? =some o→(∀off len,x≠ .own b off len)→h'[b]? =some o:=
 Ud OA 3 Rm OB bV encRoadV encV_road (·.to) 200 (enters_of Tryz.func200 (by kernel_rfl) rfl) rows (fun x hx y hy W=>cmp_road x y (hr x hx) (hr y hy) W) hnd (by omega) hx
end Go.Proofs.YtkpioblbeiaefaaGreat
end
section
namespace Go.Proofs.YtkpioblbeiaefaaGreat
open Go Go.Abs Go.Toll
variable {gl : aR} {h : ak}
structure AL (h H:ak)(n:bv)(x:AV)(kvs:List (AV×AV))(y:AV):Prop where
 net:H[h.length]? =some (.cells 2 [bE n])
 res:H[h.length+1]? =some (.cells 3 [[.nil,.lit (.map none),.nil]])
 map:H[h.length+2]? =some (.map kvs)
 rr:H[h.length+3]? =some (.cells 3 [[x,.map (h.length+2),y]])
 base: ∃g,H=h++g
section
variable {H H' : ak} {n : bv} {x x' y y' : AV} {kvs kvs' : List (AV × AV)}
theorem AL.len (p:AL h H n x kvs y):h.length+3<H.length:=(zA.1 p.rr).1
theorem AL.at (p:AL h H n x kvs y):(H[h.length]? =some (.cells 2 [bE n])∧H[h.length+1]? =some (.cells 3 [[.nil,.lit (.map none),.nil]])∧H[h.length+2]? =some (.map kvs)∧H[h.length+3]? =some (.cells 3 [[x,.map (h.length+2),y]]))∧
  (h.length<H.length∧h.length+1<H.length∧h.length+2<H.length∧h.length+3<H.length)∧
  (∀hl:h.length<H.length,H[h.length]= .cells 2 [bE n])∧(∀hl:h.length+1<H.length,H[h.length+1]= .cells 3 [[.nil,.lit (.map none),.nil]])∧(∀hl:h.length+2<H.length,H[h.length+2]= .map kvs)∧ ∀hl:h.length+3<H.length,H[h.length+3]= .cells 3 [[x,.map (h.length+2),y]]:=by
 have hl:=p.len;refine⟨⟨p.net,p.res,p.map,p.rr⟩,⟨by omega,by omega,by omega,hl⟩,fun _=> ?_,fun _=> ?_,fun _=> ?_,fun _=> ?_⟩
 ·exact (zA.1 p.net).2
 ·exact (zA.1 p.res).2
 ·exact (zA.1 p.map).2
 ·exact (zA.1 p.rr).2
theorem AL.keep (p:AL h H n x kvs y)(hk: ∀b o,b<h.length+4→H[b]? =some o→H'[b]? =some o)(hb: ∃g,H'=h++g):AL h H' n x kvs y:=
 ⟨hk _ _ (by omega) p.net,hk _ _ (by omega) p.res,hk _ _ (by omega) p.map,hk _ _ (by omega) p.rr,hb⟩
theorem AL.more (p:AL h H n x kvs y)(g:ak):AL h (H++g) n x kvs y:=
 p.keep (fun b o _ ho=>by rw [zC (zA.1 ho).1];exact ho) (by obtain⟨g',rfl⟩:=p.base;exact⟨g'++g,by rw [zK]⟩)
theorem AL.setR (p:AL h H n x kvs y)(x' y':AV):AL h (H.set (h.length+3) (.cells 3 [[x',.map (h.length+2),y']])) n x' kvs y':=by
 have hl:=p.len;refine⟨?_,?_,?_,zI hl,?_⟩
 ·rw [zJ (by omega)];exact p.net
 ·rw [zJ (by omega)];exact p.res
 ·rw [zJ (by omega)];exact p.map
 ·obtain⟨g,rfl⟩:=p.base;exact⟨_,List.set_append_right _ _ (by omega)⟩
theorem AL.setM (p:AL h H n x kvs y)(kvs':List (AV×AV)):AL h (H.set (h.length+2) (.map kvs')) n x kvs' y:=by
 have hl:=p.len;refine⟨?_,?_,zI (by omega),?_,?_⟩
 ·rw [zJ (by omega)];exact p.net
 ·rw [zJ (by omega)];exact p.res
 ·rw [zJ (by omega)];exact p.rr
 ·obtain⟨g,rfl⟩:=p.base;exact⟨_,List.set_append_right _ _ (by omega)⟩
theorem AL.hi (p:AL h H n x kvs y) {b:Nat} {o:cZ} (hb:h.length+4≤b):AL h (H.set b o) n x kvs y:=by
 refine p.keep (fun b' o' hb' ho=>by rw [zJ (by omega)];exact ho) ?_;obtain⟨g,rfl⟩:=p.base;exact⟨_,List.set_append_right _ _ (by omega)⟩
theorem AL.grow {lo:Nat} {s:AV} (p:AL h H n x kvs y)(g:Grow lo H s H')(hlo:h.length≤lo)(hs: ∀b off len,s= .own b off len→h.length+4≤b):AL h H' n x kvs y:=
 p.keep (fun b o hb ho=>g.keep b o ho (fun off len e=>by have:=hs b off len e;omega)) (g.base h hlo p.base)
end
def Lx:Nat→Option (List (Nat×Nat)):=fun i=>if i=20 then some [(1,19),(1,20),(4,19),(6,19),(7,19)] else none
set_option maxHeartbeats 4000000 in
theorem qh (n:bv)(hp:n.pts.length≤1000)(hl:n.lks.length≤1000):af Tryz.prog gl 186 [.agg (bE n)] h fun v h'=> ∃m g,v= .agg (bf (cO n) m)∧h'=h++g∧h.length≤m∧h'[m]? =some (.map (sM jg (Ko (cO n)))):=by
 refine af.freeze (R:=fun x h'=> ∃a y c rs g,x= .agg [a,.map (h.length+2),y]∧h'=h++g∧h'[h.length+2]? =some (.map (sM jg (Ko (cO n))))∧Ls 1 (h.length+4) h' a ((bM (cO n)).map aO)∧gu 3 (h.length+4) h' y c rs∧rs=(wU (cO n)).map fun r=>r.map bV) ?_ ?_
 ·refine af.bodyL Lx Tryz.f186 _ mixed Tryz.func186 rfl rfl (by simp [Tryz.ntmps186]) ?_;simp;refine ay.pure _ (fun _=>uG n hp hl) ?_;simp;refine⟨fun hz=> ?_,fun hz=> ?_⟩
  ·have hv:cO n=⟨[],[]⟩:=by rw [cO,if_neg hz]
   have e1:bM ⟨[],[]⟩=[]:=List.mergeSort_nil;rw [hv];exact⟨.nil,.nil,⟨rfl,rfl⟩,by rw [Ko,e1];rfl,by rw [e1];exact Ls.nil,[],by rw [wU,e1];exact gu.nil⟩
  ·have hv:cO n=n:=by rw [cO,if_pos hz]
   have ok:=vQ hz;rw [hv];refine aW.upL Lx mixed n.pts.length (fun i fr h'=>fr 1= .ptr h.length 0 0∧fr 2= .ptr (h.length+1) 0 0∧fr 3= .ptr (h.length+3) 0 0∧fr 20= .ro (n.pts.map aZ)∧fr 21= .int .i64 n.pts.length∧fr 22= .int .i64 i∧
    ∃x,AL h h' n x [] .nil∧Ls 1 (h.length+4) h' x ((Gl n i).map aO)) 0 (by omega) ⟨by simp,by simp,by simp,by simp,by simp,by simp,.nil,⟨by simp,by simp,by simp,by simp,by simp⟩,Ls.nil⟩ ?_
   rintro i fr H hi ⟨e1,e2,e3,e20,e21,e22,x,hP,hL⟩;have hPl:=hP.len;have hf:=hL.rs.fix;rcases zN i n.pts.length with hlt | hge
   ·obtain⟨p,hg,hg'⟩:=aN hlt;have ew:=aB (i:=i) (by omega);have hP1:=hP.more [.cells 3 [aZ p]];simp [-ae,-ai,-ah,-AV.solid,Lx,e1,e2,e3,e20,e21,e22,hlt,hg,hg',hP.at,hf];refine nT (lo:=h.length+4) (n:=1) (es:=(Gl n i).map aO) (ys:=[aO p.name]) (by simpa [aO] using hL.more [.cells 3 [aZ p],.cells 1 [aO p.name]]) (by simp;omega) (by simp [bu,aO]) (by have:=Tm n i;simp;omega) ?_;intro s1 H1 hs1 hg1;have hs1f:=hs1.rs.fix;have hP2:=(hP.more [.cells 3 [aZ p],.cells 1 [aO p.name]]).grow (by simpa [aO] using hg1) (by omega) hL.above;have hPl2:=hP2.len;simp [-ae,-ai,-ah,-AV.solid,Lx,e1,e2,e3,e20,e21,e22,hlt,hg,hg',hP2.at,hs1f,ew];refine⟨i+1,by omega,by omega,by omega,s1,hP2.setR _ _,?_⟩;have:=hs1.put (b:=h.length+3) (o:= .cells 3 [[s1,.map (h.length+2),.nil]]) (by omega);rw [QZ hg];simpa using this
   ·obtain rfl:i=n.pts.length:=by omega
    rw [Tk] at hL;simp [-ae,-ai,-ah,-AV.solid,Lx,e1,e2,e3,e20,e21,e22,hP.at,hf];refine ay.any (y7 (n.pts.map (·.name)) hL (by simp;omega)) ?_;rintro v H1 ⟨rfl,hL1,hlen1,hk1⟩;have hP1:=hP.keep (H':=H1) (fun b o hb ho=>hk1 b o ho fun off len e=>by have:=hL.above b off len e;omega) (jw hP.base (fun b o hb ho=>hk1 b o ho fun off len e=>by have:=hL.above b off len e;omega) (by omega));have hPl1:=hP1.len;rw [show ll (n.pts.map (·.name))=bM n from rfl] at hL1;have hf1:=hL1.rs.fix;simp [-ae,-ai,-ah,-AV.solid,Lx,e1,e2,e3,hP1.at,hf1,hL1.rs.len2];have hpl:=mF n;refine aW.upL Lx mixed (bM n).length (fun i fr h'=>fr 1= .ptr h.length 0 0∧fr 2= .ptr (h.length+1) 0 0∧fr 3= .ptr (h.length+3) 0 0∧fr 38=x∧fr 39= .int .i64 (bM n).length∧fr 40= .int .i64 i∧
     AL h h' n x (Gi n i) .nil∧Ls 1 (h.length+4) h' x ((bM n).map aO)) 0 (by omega) ⟨by simp [e1],by simp [e2],by simp [e3],by simp,by simp,by simp,hP1,hL1⟩ ?_
    clear hP hL hf e1 e2 e3 e20 e21 e22 hP1 hL1 hf1 hPl hPl1 hlen1 hk1 hi hge;rintro i fr H hi ⟨e1,e2,e3,e38,e39,e40,hP,hL⟩;have hf:=hL.rs.fix;have hPl:=hP.len;rcases zN i (bM n).length with hlt | hge
    ·obtain⟨s,hs,hs'⟩:=aN hlt;have ew:=aB (i:=i) (by omega);have rx:=Rs.ix Tryz.prog hL.rs i (by omega) (y:=aO s) (by simp [hs]);have hset:=QV ok hs;have hkok:bC Tryz.prog 9 (.str s) (Gi n i):=by
      refine⟨by simp [dY],[.str],by simp,by simp,fun p hp=> ?_⟩;obtain⟨q,_,rfl⟩:=Ac _ hp;simp
     have hPm:=hP.setM (Gi n (i+1));have hLm:=hL.put (b:=h.length+2) (o:= .map (Gi n (i+1))) (by omega);simp [-ae,-ai,-ah,-AV.solid,-bC,Lx,e1,e2,e3,e38,e39,e40,hlt,hP.at,hf,rx,aO,hset,hkok,ew];exact⟨i+1,by omega,by omega,by omega,hPm,hLm⟩
    ·obtain rfl:i=(bM n).length:=by omega
     rw [S9] at hP;simp [-ae,-ai,-ah,-AV.solid,Lx,e1,e2,e3,e38,e39,e40,hP.at,hf,hL.rs.len2];refine⟨by omega,?_⟩;obtain⟨M,hM⟩: ∃M,M=H.length:=⟨_,rfl⟩;have hxM: ∀b off len,x= .own b off len→b<M:=fun b off len e=>by rw [hM];exact hL.rs.lt e
     have hMl:h.length+4≤M:=by omega
     rw [←hM];refine aW.upL Lx mixed n.lks.length (fun j fr h'=>fr 1= .ptr h.length 0 0∧fr 2= .ptr (h.length+1) 0 0∧fr 3= .ptr (h.length+3) 0 0∧fr 56= .ro (n.lks.map jF)∧fr 57= .int .i64 n.lks.length∧fr 58= .int .i64 j∧
      ∃cs,AL h h' n x (sM jg (Ko n)) (.own M 0 cs.length)∧Ls 1 (h.length+4) h' x ((bM n).map aO)∧gu 3 M h' (.own M 0 cs.length) cs (BS n j)∧NL 3 M h' cs (BS n j)∧cs.length=(bM n).length) 0 (by omega)
      ⟨by simp [e1],by simp [e2],by simp [e3],by simp,by simp,by simp,List.replicate (bM n).length .nil,?_,?_,?_,?_,by simp⟩ ?_
     ·have:=(hP.setR x (.own M 0 (bM n).length)).more [.cells 1 (List.replicate (bM n).length [.nil])];simpa using this
     ·exact (hL.put (by omega)).more _
     ·have hq:=(gu.nils (n:=3) (m:=(bM n).length) (H:=H.set (h.length+3) (.cells 3 [[x,.map (h.length+2),.own M 0 (bM n).length]])) (lo:=M) (by simp [hM])).1;rw [Ip];simpa [hM] using hq
     ·have hq:=(gu.nils (n:=3) (m:=(bM n).length) (H:=H.set (h.length+3) (.cells 3 [[x,.map (h.length+2),.own M 0 (bM n).length]])) (lo:=M) (by simp [hM])).2;rw [Ip];exact hq
     clear hP hL hf e1 e2 e3 e38 e39 e40 hPl hi hge;rintro j fr H hj ⟨e1,e2,e3,e56,e57,e58,cs,hP,hL,hN,hNL,hcl⟩;have hPl:=hP.len;rcases zN j n.lks.length with hlt | hge
     ·obtain⟨l,hl0,hl1⟩:=aN hlt;have ew:=aB (i:=j) (by omega);obtain⟨w1,w2,w3⟩:=ok.ends l (zF hl0);have hk1:iy (sM jg (Ko n)) (.str l.src)=some (.int .i64 (bz n l.src)):=by rw [kP,DR,if_pos w1];rfl
      have hk2:iy (sM jg (Ko n)) (.str l.dst)=some (.int .i64 (bz n l.dst)):=by rw [kP,DR,if_pos w2];rfl
      have hkok: ∀s,bC Tryz.prog 9 (.str s) (sM jg (Ko n)):=fun s=>by
       refine⟨by simp [dY],[.str],by simp,by simp,fun p hp=> ?_⟩;obtain⟨q,_,rfl⟩:=Ac _ hp;simp
      have hpl2:=d9 w1;rw [←hcl] at hpl2;obtain⟨c,hc,hc'⟩:=aN hpl2;have hrg:=TF (j:=j) w1;have hLc:=hNL _ _ _ hc hrg;have hcf:=hLc.rs.fix;have hB:=hN.blk;simp [-ae,-ai,-ah,-AV.solid,-bC,Lx,e1,e2,e3,e56,e57,e58,hlt,hl0,hl1,hP.at,hkok,hk1,hk2,hB,hpl2,hc,hc',hcf];refine⟨by decide,?_⟩;refine aG (lo:=M) (n:=3) (es:=TB n j l.src) (ys:=[bV (bD n l)]) (by simpa [bD] using hLc.more [.cells 4 [jF l],.cells 3 [bV (bD n l)]]) (by simp;omega) (by simp [bu,bD]) (by have:=TD n j l.src;simp;omega) ?_;intro s1 H1 hs1 hg1 hn1;have hs1f:=hs1.rs.fix;obtain⟨hN1,hNL1⟩:=SQ (os:=[.cells 4 [jF l],.cells 3 [bV (bD n l)]]) hN hNL hc hrg hs1 (by simpa [bD] using hg1) (by simpa [bD] using hn1);have hP2:=(hP.more [.cells 4 [jF l],.cells 3 [bV (bD n l)]]).grow (by simpa [bD] using hg1) (by omega) (fun b off len e=>by have:=hLc.above b off len e;omega);have hL2:=(hL.more [.cells 4 [jF l],.cells 3 [bV (bD n l)]]).grow (by simpa [bD] using hg1) (fun b e _ off len e'=>by have:=hxM _ _ _ e;have:=hLc.above _ _ _ e';omega);have hP3:=hP2.hi (b:=M) (o:= .cells 1 ((cs.map fun c=>[c]).set (bz n l.src) [s1])) (by omega);have hlen1:=hg1.len;have hB1:=hN.blk1 (os:=[.cells 4 [jF l],.cells 3 [bV (bD n l)]]) hc hrg (by simpa [bD] using hg1);simp [-ae,-ai,-ah,-AV.solid,-bC,Lx,e1,e2,e3,e56,e57,e58,hlt,hl0,hl1,hP.at,hkok,hk1,hk2,hB,hpl2,hc,hc',hcf,hP2.at,hs1f,ew,hB1];refine⟨j+1,by omega,by omega,by omega,cs.set (bz n l.src) s1,by simpa using hP3,hL2.keep' fun b len o e ho=>by rw [zJ (by have:=hxM _ _ _ e;omega)];exact ho,?_,?_,by simp [hcl]⟩
      ·rw [Im ok hl0];simpa using hN1
      ·rw [Im ok hl0];exact hNL1
     ·obtain rfl:j=n.lks.length:=by omega
      rw [←QP] at hN hNL;simp [-ae,-ai,-ah,-AV.solid,-bC,Lx,e1,e2,e3,e56,e57,e58,hP.at];refine aW.upL Lx mixed cs.length (fun i fr h'=>fr 1= .ptr h.length 0 0∧fr 2= .ptr (h.length+1) 0 0∧fr 3= .ptr (h.length+3) 0 0∧fr 90= .own M 0 cs.length∧fr 91= .int .i64 cs.length∧fr 92= .int .i64 i∧
       AL h h' n x (sM jg (Ko n)) (.own M 0 cs.length)∧Ls 1 (h.length+4) h' x ((bM n).map aO)∧gu 3 M h' (.own M 0 cs.length) cs (BO n i)∧NL 3 M h' cs (BO n i)) 0 (by omega)
       ⟨by simp [e1],by simp [e2],by simp [e3],by simp,by simp,by simp,hP,hL,hN,hNL⟩ ?_
      clear hP hL hN hNL e1 e2 e3 e56 e57 e58 hPl hge hj;rintro i fr H hi ⟨e1,e2,e3,e90,e91,e92,hP,hL,hN,hNL⟩;have hPl:=hP.len;have hB:=hN.blk;rcases zN i cs.length with hlt | hge
      ·obtain⟨c,hc,hc'⟩:=aN hlt;obtain⟨s,hs,_⟩:=aN (l:=bM n) (i:=i) (by omega);have hrg:=SK hs;have hLc:=hNL _ _ _ hc hrg;have hcf:=hLc.rs.fix;have ew:=aB (i:=i) (by omega);simp [-ae,-ai,-ah,-AV.solid,-bC,Lx,e1,e2,e3,e90,e91,e92,hlt,hP.at,hB,hc,hc',hcf];refine ay.any (BX (Vj n s) (fun r hr=> ?_) (Re ok s) ?_ hLc) ?_
       ·obtain⟨z,hz,rfl⟩:=List.mem_map.1 hr;have:=d9 (ok.ends z (List.mem_filter.1 hz).1).2.1;simp only [bD];omega
       ·rw [Vj,List.length_map];exact Nat.le_trans (List.length_filter_le _ _) (by omega)
       ·rintro v H1 ⟨rfl,hLc1,hlen1,hk1⟩;rw [show (Vj n s).mergeSort (fun a b=>decide (a.to≤b.to))=rowOf n s from Ol ok s] at hLc1;obtain⟨hN1,hNL1⟩:=QQ hN hNL hc hLc1 hk1;rw [QO hs] at hN1 hNL1;have hP1:=hP.keep (H':=H1) (fun b o hb ho=>hk1 b o ho fun off len e=>by have:=hLc.above b off len e;omega) (jw hP.base (fun b o hb ho=>hk1 b o ho fun off len e=>by have:=hLc.above b off len e;omega) (by omega));have hL1:Ls 1 (h.length+4) H1 x ((bM n).map aO):=hL.keep' fun b len o e ho=>hk1 b o ho fun off len' e'=>by have:=hxM _ _ _ e;have:=hLc.above _ _ _ e';omega
        simp [-ae,-ai,-ah,-AV.solid,-bC,Lx,e1,e2,e3,e90,e91,e92,ew];exact⟨i+1,by omega,by omega,by omega,hP1,hL1,hN1,hNL1⟩
      ·obtain rfl:i=cs.length:=by omega
       rw [hcl,SI,←hcl] at hN;have hxf:=hL.rs.fix;simp [-ae,-ai,-ah,-AV.solid,-bC,Lx,e1,e2,e3,e90,e91,e92,hP.at,hxf];refine⟨x,_,⟨rfl,rfl⟩,?_,hL.put (by omega),cs,(hN.low hMl).put0 (by omega)⟩;obtain⟨g,rfl⟩:=hP.base;exact⟨_,List.set_append_right _ _ (by omega)⟩
 ·rintro x h' ⟨a,y,c,rs,g,rfl,rfl,hm,hL,hN,rfl⟩;obtain⟨k1,hk1,f1⟩:=hL.lend;obtain⟨k2,hk2,f2⟩:=hN.lend;have hge: ∀b∈k1++k2,h.length+4≤b:=fun b hb=>by
   rcases List.mem_append.1 hb with hb | hb
   ·exact (hk1 b hb).1
   ·exact hk2 b hb
  obtain⟨g',hg'⟩:=jk (k1++k2) h g fun b hb=>by have:=hge b hb;omega
  refine⟨k1++k2,_,gq.agg' (.cons (f1.more fun b hb=>List.mem_append_left _ hb) (.cons (.same _) (.cons (f2.more fun b hb=>List.mem_append_right _ hb) .nil))),h.length+2,g',?_,hg',by omega,?_⟩
  ·rw [bf,List.map_map];rfl
  ·rw [iH _ _ _ fun hb=>by have:=hge _ hb;omega];exact hm
end Go.Proofs.YtkpioblbeiaefaaGreat
end
