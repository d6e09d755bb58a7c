/- Part 32 of the lemmas below the statements of this seat: Law21A, Law21C, AbsBridgeU, TollTripShape. -/
import Derived.Test.YtkpioblbeiaefaaGreatPb31
set_option linter.unusedSectionVars false
set_option linter.unusedVariables false
set_option linter.unusedSimpArgs false
set_option linter.unnecessarySimpa false
set_option maxRecDepth 100000
section
namespace Go.Proofs.YtkpioblbeiaefaaGreat
open Go Go.Abs Go.Toll
variable {gl : aR} [GOk gl] {h : ak}
theorem BA (t:bn)(l:List aC) {x:AV} (hx:Rs 8 h x (l.map aj))(hL:ng l)(hT:wF t)(hE:((fJ t l).out).length<20):
  af Tryz.prog gl 12 [.agg (av t),x] h fun v h'=>v= .tup [.ro ((bP (fJ t l).trips).map aH),.ro ((mW (fJ t l).out).map aM)]∧h'=h:=by
 refine af.fresh' ((OL t l hx hL hT hE).mono ?_);rintro v h' ⟨x,y,rfl,h1,h2,hg⟩;exact⟨hg,.tup' (.cons (h1.frz (Nat.le_refl _) (FH _)) (.cons (h2.frz (Nat.le_refl _) (Jn _)) .nil))⟩
theorem IR (t:bn)(l:List aC) {x:AV} (hx:Rs 8 h x (l.map aj))(hL:ng l)(hT:wF t)(hE:(pg t l).length<20):
  af Tryz.prog gl 16 [.agg (av t),x] h fun v h'=>v= .tup [.ro ((bP (allT t l)).map aH),.ro ((mW (pg t l)).map aM)]∧h'=h:=by
 refine af.fresh' ((Ul t l hx hL hT hE).mono ?_);rintro v h' ⟨x,y,rfl,h1,h2,hg⟩;exact⟨hg,.tup' (.cons (h1.frz (Nat.le_refl _) (FH _)) (.cons (h2.frz (Nat.le_refl _) (Jn _)) .nil))⟩
theorem U7:af Tryz.prog gl 32 [] h fun v h'=>v= .agg (av Ce)∧h'=h:=by
 refine af.fresh' (af.body Tryz.f32 _ mixed Tryz.func32 rfl rfl (by simp [Tryz.ntmps32]) ?_);simp [-nS];repeat (rw [nS];simp [-nS])
 exact .agg' (.cons (qy.ownD (b:=h.length+1) (m:=3) (off:=0) (by simp;rfl) (by omega) (by simp) (by simp [Ce]) (by simp [Ce])) (.cons .nil (.cons (qy.ownD (b:=h.length+2) (m:=3) (off:=0) (by simp;rfl) (by omega) (by simp) (by simp [Ce]) (by simp [Ce])) .nil)))
set_option maxHeartbeats 1000000 in
theorem FC (x:dB) {y:AV} (hy:Rs 3 h y (x.stops.map aa))(hn:x.stops.length≤1000000):af Tryz.prog gl 20 [.agg (iq x y)] h fun v h'=>v= .ro ((bg x.stops).map aO)∧h'=h:=by
 refine af.fresh' (af.body Tryz.f20 _ mixed Tryz.func20 rfl rfl (by simp [Tryz.ntmps20]) ?_);have hyf:=hy.fix;have ly:=(hy.append [.cells 5 [iq x y]]).len2;simp only [iq] at ly;simp [iq,hyf,ly];refine aW.up mixed x.stops.length (fun i fr H=>fr 7=y∧fr 8= .int .i64 x.stops.length∧fr 9= .int .i64 i∧(∃g,H=h++g)∧ ∃z,fr 3=z∧Ls 1 h.length H z ((bg (x.stops.take i)).map aO)) 0 (by omega)
  ⟨by simp,by simp,by simp,⟨_,rfl⟩,.nil,by simp,by simpa [bg] using Ls.nil⟩ ?_
 rintro i fr H hi ⟨e7,e8,e9,hB,z,e3,hz⟩;have hzf:=hz.rs.fix;have hlH:=aV hB;have hyH:=Rs.keepB hy hB;rcases zN i x.stops.length with hlt | hge
 ·obtain⟨s,hs,hs'⟩:=aN hlt;have ew:=aB (i:=i) (by omega);have hltI:(i:Int)<x.stops.length:=by omega
  have hsuc:=sD hs;have hpl:=rC (x.stops.take i);have htl:=List.length_take_le i x.stops;have ra:=Rs.ix Tryz.prog hyH i (by omega) (y:=aa s) (by simp [hs]);simp only [aa] at ra;by_cases c:s.pass=[]
  ·rw [if_pos c] at hsuc;simp [aa,e3,e7,e8,e9,hlt,hltI,ra,hyf,c,ew,hzf];exact⟨i+1,by omega,by omega,by omega,aF hB _,by rw [hsuc];exact hz.more _⟩
  ·rw [if_neg c] at hsuc;simp [-ae,-ai,-ah,-AV.solid,aa,e3,e7,e8,e9,hlt,hltI,ra,hyf,c,hzf];refine aG (lo:=h.length) (n:=1) (es:=(bg (x.stops.take i)).map aO) (ys:=[aO s.pass]) (by simpa [aO] using hz.more _) (by simp;omega) (by simp [bu,aO]) (by simp;omega) ?_;intro s1 H1 hs1 hg1 hn1;have hs1f:=hs1.rs.fix;have hB1:=hg1.base h (by omega) (aF hB _);simp [-ae,-ai,-ah,-AV.solid,e7,e8,e9,hs1f,ew];exact⟨i+1,by omega,by omega,by omega,hB1,by rw [hsuc];simpa using hs1⟩
 ·obtain rfl:i=x.stops.length:=by omega
  rw [List.take_length] at hz;simp [e3,e7,e8,e9,hzf];exact⟨hB,hz.frz (Nat.le_refl _) (IM _)⟩
theorem Ry (x:dB) {y:AV} (hy:Rs 3 h y (x.stops.map aa)):qy 0 h (.agg (iq x y)) (.agg (aH x)):=
 .agg' (.cons (.data _ (by simp)) (.cons (.data _ (by simp)) (.cons (.data _ (by simp)) (.cons (.data _ (by simp)) (.cons (hy.frz (OE _)) .nil)))))
def xE:Nat→Option (List (Nat×Nat)):=fun id=>if id=2∨id=3 then some [(0,3)] else none
theorem Yu:wF Ce:=⟨by decide,by decide,by decide,by decide⟩
theorem Yt:qc.Ok:=⟨rfl,by unfold fU;decide,by unfold fU;decide,by unfold fU;decide,by unfold fU;decide,fun s hs=>by
 have:qc.srcs=[⟨[99,49],5⟩]:=rfl;rw [this] at hs;obtain rfl:=List.mem_singleton.1 hs;unfold fU;decide,by decide⟩
theorem Yr:ng [qc]:=⟨fun p hp=>by obtain rfl:=List.mem_singleton.1 hp;exact⟨Yt,by decide⟩,fun p hp=>by obtain rfl:=List.mem_singleton.1 hp;decide,by decide⟩
theorem RV {x:AV} (hx:Rs 8 h x ([qc].map aj)):af Tryz.prog gl 12 [.agg (av Ce),x] h fun v h'=>v= .tup [.ro [aH BH],.ro []]∧h'=h:=by
 have:=BA (gl:=gl) Ce [qc] hx Yr Yu (by unfold fJ;rw [Jc,RX,RU];decide);unfold fJ at this;rw [Jc,RX,VD,RU] at this;exact this
theorem Wu {x:AV} (hx:Rs 8 h x ([qc].map aj)):af Tryz.prog gl 16 [.agg (av Ce),x] h fun v h'=>v= .tup [.ro [aH BH],.ro []]∧h'=h:=by
 have e1:M0 Ce [qc]=[bY Ce [qc] [65,66,49,50]]:=by
  unfold M0;rw [Jc,UG];simp only [List.map_cons,List.map_nil,Yv]
 have e2:allT Ce [qc]=[BH]:=by
  unfold allT;rw [e1];simp only [List.flatMap_cons,List.flatMap_nil,List.append_nil];exact VD
 have e3:pg Ce [qc]=[]:=by
  unfold pg;rw [e1];simp only [List.flatMap_cons,List.flatMap_nil,List.append_nil];exact RU
 have:=IR (gl:=gl) Ce [qc] hx Yr Yu (by rw [e3];decide);rw [e2,e3] at this;exact this
set_option maxHeartbeats 4000000 in
theorem Ht:af Tryz.prog gl 11 [] h fun v h'=>v= .bool true∧h'=h:=by
 refine af.data (.bool _) (af.bodyF 2 Tryz.f11 _ mixed Tryz.func11 rfl rfl (by simp [Tryz.ntmps11]) ?_);simp [-nS];repeat (rw [nS];simp [-nS])
 refine aW.freezeF (lo:=h.length) (n:=2) (es:=[[.str [99,49],.int .i64 5]]) 9 (h.length+1) 8 [.str [99,49,46,53],.str [111],.int .i64 100,.str [],.str [65,66,49,50],.int .i64 2,.int .i64 0] [] (by simp) (Ls.own (b:=h.length) (by simp) (Nat.le_refl _) rfl (by simp)).z (by simp) (fun off len e=>by injection e with e;omega) ?_;intro fr2 H2 _ qf hP2 hk2 hb2 hl2;have f1:fr2 1= .ptr (h.length+1) 0 0:=by rw [qf 1 (by decide)];simp
 have hB: ∃g,H2=h++g:=hb2 h (Nat.le_refl _) (by omega) ⟨_,rfl⟩;have hP:H2[h.length+1]? =some (.cells 8 [aj qc]):=hP2;clear hP2 hk2 hb2 qf;have hP3:=at3 hP;simp only [aj] at hP3;have nt:=fun H:ak=>U7 (gl:=gl) (h:=H);have bl:=fun (H:ak) (b:Nat) (hb:H[b]? =some (.cells 8 [aj qc]))=>(RV (gl:=gl) (h:=H) (x:= .own b 0 1) (Rs.own (b:=b) (es:=[aj qc]) hb (by simp)));have al:=fun (H:ak) (b:Nat) (hb:H[b]? =some (.cells 8 [aj qc]))=>(Wu (gl:=gl) (h:=H) (x:= .own b 0 1) (Rs.own (b:=b) (es:=[aj qc]) hb (by simp)));refine aW.of_awpL xE mixed _ _ _ _ ?_;simp [xE,f1];refine⟨by decide,?_⟩;refine ay.pure _ (fun _=>nt _) ?_;simp [xE,f1,hP3,av];refine ay.pure _ (fun _=>bl _ _ (by simp [aj])) ?_;simp [xE,f1,hP3,av];refine⟨ay.pure _ (fun _=>nt _) (by simp [av]),by decide,?_⟩;refine ay.pure _ (fun _=>nt _) ?_;simp [xE,f1,hP3,av];refine ay.pure _ (fun _=>al _ _ (by simp [aj])) ?_;simp [xE,f1,hP3,av];refine⟨ay.pure _ (fun _=>nt _) (by simp [av]),?_⟩;have S0:BH.stops.map aa=[[.str [111],.int .i64 100,.str [99,49,46,53]]]:=rfl;have rs:=fun (H:ak) (b:Nat) (hb:H[b]? =some (.cells 3 [[.str [111],.int .i64 100,.str [99,49,46,53]]]))=>(Rs.own (b:=b) (es:=BH.stops.map aa) (n:=3) (by rw [S0];exact hb) (by rw [S0];simp):Rs 3 H (.own b 0 1) (BH.stops.map aa));have pas:=fun (H:ak) (b:Nat) hb=>(FC (gl:=gl) (h:=H) BH (rs H b hb) (by decide));have one:=fun (H:ak) (b:Nat) hb=>(Iq (gl:=gl) (h:=H) BH (rs H b hb) (by decide));have fz:=fun (H:ak) (b:Nat) hb=>Ry (h:=H) BH (rs H b hb);have chk:=fun (H:ak) (b:Nat) hb=>(af.borrow (gl:=gl) (h:=H) (args:=[.agg (av Ce),.agg (iq BH (.own b 0 1))]) (r:= .int .i64 (mo Ce BH)) (.int _ _) (.cons (.data _ (by simp [av])) (.cons (fz H b hb) .nil)) (FB Ce BH (by decide) (by decide) (by decide) (by decide)));have idc:=fun (H:ak) (b:Nat) hb=>(af.borrow (gl:=gl) (h:=H) (args:=[.agg (iq BH (.own b 0 1))]) (r:= .str (Pn BH)) (.str _) (.cons (fz H b hb) .nil) (Kj BH (by decide)));have spn:=fun (H:ak) (b:Nat) hb=>(af.borrow (gl:=gl) (h:=H) (args:=[.agg (iq BH (.own b 0 1))]) (r:= .agg (Dm (E8 BH))) (.agg _ (fun x hx=>by simp [Dm] at hx;rcases hx with rfl | rfl <;> exact .int _ _)) (.cons (fz H b hb) .nil) (Rz BH (by decide)));have chk0:=fun (H:ak)=>(af.borrow (gl:=gl) (h:=H) (args:=[.agg (av Ce),.agg [.str [],.str [],.str [],.int .i64 0,.nil]]) (r:= .int .i64 (mo Ce ⟨[],[],[],0,[]⟩)) (.int _ _) (.cons (.data _ (by simp [av])) (.cons (.agg' (.cons (.data _ (by simp)) (.cons (.data _ (by simp)) (.cons (.data _ (by simp)) (.cons (.data _ (by simp)) (.cons .nil .nil)))))) .nil)) (FB Ce ⟨[],[],[],0,[]⟩ (by decide) (by decide) (by decide) (by decide)));rw [UF] at chk0;rw [Wv] at chk;have ps:(bg BH.stops).map aO=[[.str [99,49,46,53]]]:=rfl;rw [ps] at pas;have di:Pn BH=[99,49,46,53]:=rfl;rw [di] at idc;have sp:Dm (E8 BH)=[.int .i64 100,.int .i64 101]:=by kernel_rfl
 rw [sp] at spn;obtain⟨N,hN⟩: ∃N:ak,N=H2++[.cells 8 [[.str qc.id,.str qc.point,.int .i64 qc.time,.str qc.tag,.str qc.plate,.int .i64 qc.cls,.int .i64 qc.score,.ro qc.sources]],.cells 8 [[.str qc.id,.str qc.point,.int .i64 qc.time,.str qc.tag,.str qc.plate,.int .i64 qc.cls,.int .i64 qc.score,.ro qc.sources]],.cells 3 [[.str [111],.int .i64 100,.str [99,49,46,53]]],.cells 5 [[.str [99,49,46,53],.str [65,66,49,50],.str [109],.int .i64 2,.own (H2.length+2) 0 1]]]:=⟨_,rfl⟩;have hNS:N[H2.length+2]? =some (.cells 3 [[.str [111],.int .i64 100,.str [99,49,46,53]]]):=by rw [hN,zD (by omega),show H2.length+2 - H2.length=2 from by omega];rfl
 have hNX:N[H2.length+2+1]? =some (.cells 5 [[.str [99,49,46,53],.str [65,66,49,50],.str [109],.int .i64 2,.own (H2.length+2) 0 1]]):=by rw [hN,zD (by omega),show H2.length+2+1 - H2.length=3 from by omega];rfl
 have hNB: ∃g,N=h++g:=by rw [hN];exact aF hB _
 have hX3:=at3 hNX;have hS3:=at3 hNS;rw [←hN];refine ay.pure _ (fun _=>pas _ _ hNS) ?_;have tk:List.take 5 (aH BH)=aH BH:=rfl;simp [xE,hX3,tk];refine⟨by decide,?_⟩;refine ay.pure _ (fun _=>one _ _ hNS) ?_;simp [xE,hX3,tk];refine ay.pure _ (fun _=>one _ _ hNS) ?_;simp [xE,hX3];refine ay.pure _ (fun _=>nt _) ?_;simp [xE,hX3];refine ay.pure _ (fun _=>chk _ _ hNS) ?_;simp [xE,hX3];refine ay.pure _ (fun _=>nt _) ?_;simp [xE,hX3];refine ay.pure _ (fun _=>chk0 _) ?_;simp [xE,hX3];refine ay.pure _ (fun _=>idc _ _ hNS) ?_;simp [xE,hX3];refine ay.pure _ (fun _=>spn _ _ hNS) ?_;simp [xE,hX3];exact hNB
def CW (t:bn)(p:aC):Bool:=decide (12<p.sources.length) || !decide (uW t.net p=0)
def jq (t:bn)(l:List aC)(m:Nat):Bool:=decide (t.net.pts.length≤16∧t.net.lks.length≤40∧t.sys.length≤8∧l.length≤m∧bZ t=0) && l.all fun p=> !CW t p
set_option maxHeartbeats 4000000 in
theorem Hu (t : bn) (l : List aC) (m : Nat) (hm : m ≤ 100) {x : AV} (hx : Rs 8 h x (l.map aj)) (hok : ∀ p ∈ l, p.Ok ∧ p.plate.length ≤ 1048576) :
    af Tryz.prog gl 10 [.agg (av t), x, .int .i64 m] h fun v h' => v = .bool (jq t l m) ∧ h' = h := by
  refine af.data (by simp) (af.body Tryz.f10 _ mixed Tryz.func10 rfl rfl (by simp [Tryz.ntmps10]) ?_)
  have fx := hx.fix
  have hxG := hx.append [.cells 3 [av t]]
  have lx := hxG.len2
  simp only [av] at lx
  by_cases c1 : 16 < t.net.pts.length
  · have e : jq t l m = false := by unfold jq; rw [decide_eq_false (by omega)]; rfl
    have c1' : (16 : Int) < t.net.pts.length := by omega
    rw [e]
    simp [au, fx, av, c1, c1']
    refine ay.pure (.int .i64 0) (fun c => by cases c) ?_
    simp [au]
  have c1' : ¬ (16 : Int) < t.net.pts.length := by omega
  by_cases c2 : 40 < t.net.lks.length
  · have e : jq t l m = false := by unfold jq; rw [decide_eq_false (by omega)]; rfl
    have c2' : (40 : Int) < t.net.lks.length := by omega
    rw [e]
    simp [au, fx, av, c1, c1', c2, c2']
    refine ay.pure (.int .i64 0) (fun c => by cases c) ?_
    simp [au]
  have c2' : ¬ (40 : Int) < t.net.lks.length := by omega
  by_cases c3 : 8 < t.sys.length
  · have e : jq t l m = false := by unfold jq; rw [decide_eq_false (by omega)]; rfl
    have c3' : (8 : Int) < t.sys.length := by omega
    rw [e]
    simp [au, fx, av, c1, c1', c2, c2', c3, c3']
    refine ay.pure (.int .i64 0) (fun c => by cases c) ?_
    simp [au]
  have c3' : ¬ (8 : Int) < t.sys.length := by omega
  by_cases c4 : m < l.length
  · have e : jq t l m = false := by unfold jq; rw [decide_eq_false (by omega)]; rfl
    have c4' : (m : Int) < l.length := by omega
    rw [e]
    simp [au, fx, lx, av, c1, c1', c2, c2', c3, c3', c4, c4']
    refine ay.pure (.int .i64 0) (fun c => by cases c) ?_
    simp [au]
  have c4' : ¬ (m : Int) < l.length := by omega
  have c4l : (l.length : Int) ≤ m := by omega
  have rc := fun H : ak => ve (gl := gl) (h := H) t (by omega) (by omega) (by omega)
  simp [au, fx, lx, av, c1, c1', c2, c2', c3, c3', c4, c4']
  refine ay.pure _ (fun _ => by simpa [av] using rc _) ?_
  by_cases c5 : bZ t = 0
  · have e : jq t l m = l.all fun p => !CW t p := by unfold jq; rw [decide_eq_true (by omega)]; rfl
    rw [e]
    simp [au, fx, av, c5]
    refine aW.up mixed l.length (fun i fr H => fr 1 = x ∧ fr 3 = .ptr h.length 0 0 ∧ fr 7 = .int .i64 i ∧ (l.all fun p => !CW t p) = ((l.drop i).all fun p => !CW t p) ∧ h ++ [.cells 3 [av t]] = H) 0 (by omega)
      ⟨by simp, by simp, by simp, by simp, by simp [av]⟩ ?_
    rintro i fr H hi ⟨e1, e3, e7, hf, rfl⟩
    have hT3 := at3 (show (h ++ [.cells 3 [av t]])[h.length]? = some (.cells 3 [av t]) by simp)
    simp only [av] at hT3
    rcases zN i l.length with hlt | hge
    · obtain ⟨p, hp, hp'⟩ := aN hlt
      have ew := aB (i := i) (by omega)
      have hltI : (i : Int) < l.length := by omega
      rw [bF hp, List.all_cons] at hf
      have ra := Rs.ix Tryz.prog hxG i (by omega) (y := aj p) (by simp [hp])
      simp only [aj, av] at ra
      obtain ⟨hpo, hpl⟩ := hok p (zF hp)
      by_cases d1 : 12 < p.sources.length
      · have d1' : (12 : Int) < p.sources.length := by omega
        have hb : CW t p = true := by unfold CW; simp [d1]
        rw [hb] at hf
        rw [hf]
        simp [au, av, e1, e3, e7, hlt, hltI, fx, lx, ra, d1, d1']
        refine ⟨by decide, ?_⟩
        refine ay.pure (.int .i64 0) (fun c => by cases c) ?_
        simp [au]
      · have d1' : ¬ (12 : Int) < p.sources.length := by omega
        have d1l : (p.sources.length : Int) ≤ 12 := by omega
        have hck := fun H : ak => L8 (gl := gl) (h := H) t.net p hpo (by have : p.srcs.length = p.sources.length := (by unfold aC.srcs; simp); omega) (by omega) (by omega) (by omega)
        simp [au, av, e1, e3, e7, hlt, hltI, fx, lx, ra, d1, d1', d1l]
        refine ⟨by decide, ?_⟩
        refine ay.pure _ (fun _ => by simpa [aj, bE] using hck _) ?_
        by_cases d2 : uW t.net p = 0
        · have hb : CW t p = false := by unfold CW; simp [d1, d2]
          rw [hb] at hf
          simp [au, e1, e3, e7, d2, ew]
          exact ⟨i + 1, by omega, by omega, by omega, by simpa using hf⟩
        · have hb : CW t p = true := by unfold CW; simp [d2]
          rw [hb] at hf
          rw [hf]
          simp [au, e1, e3, e7, d2]
    · obtain rfl : i = l.length := by omega
      rw [List.drop_length] at hf
      rw [hf]
      simp [au, av, e1, e3, e7, fx, lx]
  · have e : jq t l m = false := by unfold jq; rw [decide_eq_false (by omega)]; rfl
    rw [e]
    simp [au, c5]
structure Wh (t:bn)(l:List aC):Prop where
 z:bZ t=0
 v: ∀p∈l,qD t p
 L:l.length<20→ng l
 T:wF t
theorem EP {t:bn} {l:List aC} {m:Nat} (h:jq t l m=true)(hok: ∀p∈l,p.Ok):Wh t l∧l.length≤m:=by
 unfold jq at h;simp only [Bool.and_eq_true,decide_eq_true_eq,List.all_eq_true] at h;obtain⟨⟨h1,h2,h3,h4,h5⟩,h6⟩:=h;have hv:=iD h5;have hn:=fC t;rw [hv] at hn;have hp: ∀p∈l,p.sources.length≤12∧uW t.net p=0:=fun p hp=>by
  have:=h6 p hp;unfold CW at this;simp at this;exact this
 refine⟨⟨h5,fun p hq=>(Ig (hp p hq).2 h5).1,fun hl=>⟨fun p hq=>⟨hok p hq,by have:=(hp p hq).1;omega⟩,fun p hq=>by have:=(Ig (hp p hq).2 h5).2.2.1;omega,hl⟩,⟨fun p hq=> ?_,by omega,by omega,by omega⟩⟩,h4⟩;have h7:=(kY hn p hq).1;unfold fE at h7;simp at h7;omega
set_option maxHeartbeats 2000000 in
theorem NG (t:bn)(l:List aC)(hok: ∀p∈l,p.Ok∧p.plate.length≤1048576):af Tryz.prog gl 3 [.agg (av t),.ro (l.map aj)] h fun v h'=>v= .bool true:=by
 refine af.body Tryz.f3 _ mixed Tryz.func3 rfl rfl (by simp [Tryz.ntmps3]) ?_;have hx: ∀H:ak,Rs 8 H (.ro (l.map aj)) (l.map aj):=fun H=>Rs.ro (Ev l);have rt:=fun H:ak=>Hu (gl:=gl) (h:=H) t l 12 (by omega) (hx H) hok;have aw:=fun H:ak=>Ht (gl:=gl) (h:=H);simp only [av] at rt;simp [au,av];refine ay.pure _ (fun _=>rt _) ?_
 cases hr:jq t l 12 with
 | false=>
  simp [au];refine ay.pure _ (fun _=>aw _) ?_;simp [au]
 | true=>
  obtain⟨hS,hl⟩:=EP hr (fun p hp=>(hok p hp).1);have hL:=hS.L (by omega);have hb20:(fJ t l).out.length<20:=by
   have h1:=Nc hS.z (Tf hS.v) (Nat.le_trans (oN l) (by omega)) (sZ (bO l));have h2:=oN l;rw [fJ];omega
  have c1:=fun H:ak=>BA (gl:=gl) (h:=H) t l (hx H) hL hS.T hb20;have c2:=fun H:ak=>Mh (gl:=gl) (h:=H) t l (hx H) hS.z hL hS.T;have hb:=qG t (bO l) (sZ (bO l));have hol:=oN l;have hE:mW (fJ t l).out=bR (fJ t l).out:=IB (Qj hS.z (Tf hS.v) (by omega) (Cv l) _);have hst: ∀z∈bP (fJ t l).trips,z.stops.length≤1000000:=fun z hz=>by
   have:=KF t (bO l) (sZ (bO l)) z ((dW _).1 hz);omega
  have hTl:(bP (fJ t l).trips).length≤1000000:=by rw [oQ];exact Nat.le_trans hb.1 (by omega)
  have hEl:(bR (fJ t l).out).length≤1000000:=by rw [sU];exact Nat.le_trans hb.2 (by omega)
  have s1:=fun H:ak=>EL (gl:=gl) (h:=H) (bP (fJ t l).trips) (Rs.ro (Cy _)) (Rs.ro (Cy _)) hTl hst;have s2:=fun H:ak=>mI (gl:=gl) (h:=H) (bR (fJ t l).out) (Rs.ro (zS _)) (Rs.ro (zS _)) hEl;rw [hE] at c1;simp only [av] at c1 c2;generalize bP (fJ t l).trips=T at*;generalize bR (fJ t l).out=E at*;simp [au];refine ay.pure _ (fun _=>c1 _) ?_;simp [au];refine ay.pure _ (fun _=>c2 _) ?_;simp [au];refine ay.pure _ (fun _=>s1 _) ?_;simp [au];refine ay.pure _ (fun _=>s2 _) ?_;simp [au];refine ay.pure _ (fun _=>aw _) ?_;simp [au]
set_option maxHeartbeats 2000000 in
theorem U6 (t:bn)(l:List aC)(hok: ∀p∈l,p.Ok∧p.plate.length≤1048576):af Tryz.prog gl 4 [.agg (av t),.ro (l.map aj)] h fun v h'=>v= .bool true:=by
 refine af.body Tryz.f4 _ mixed Tryz.func4 rfl rfl (by simp [Tryz.ntmps4]) ?_;have hx: ∀H:ak,Rs 8 H (.ro (l.map aj)) (l.map aj):=fun H=>Rs.ro (Ev l);have rt:=fun H:ak=>Hu (gl:=gl) (h:=H) t l 16 (by omega) (hx H) hok;have aw:=fun H:ak=>Ht (gl:=gl) (h:=H);simp only [av] at rt;simp [au,av];refine ay.pure _ (fun _=>rt _) ?_
 cases hr:jq t l 16 with
 | false=>
  simp [au];refine ay.pure _ (fun _=>aw _) ?_;simp [au]
 | true=>
  obtain⟨hS,hl⟩:=EP hr (fun p hp=>(hok p hp).1);have hL:=hS.L (by omega);have hb20:(pg t l).length<20:=by
   have h1:=RS hS.z hS.v (by omega);omega
  have c1:=fun H:ak=>IR (gl:=gl) (h:=H) t l (hx H) hL hS.T hb20;have c2:=fun H:ak=>Q9 (gl:=gl) (h:=H) t l (hx H) hS.z hL hS.T;have hol:=oN l;have hnd:=UD hS.z hS.v (by omega);have hE:mW (pg t l)=bR (pg t l):=IB hnd;have hst: ∀z∈bP (allT t l),z.stops.length≤1000000:=fun z hz=>by
   have:=UE t l z ((dW _).1 hz);omega
  have eT:allT t l=eP t (bO l) (eX (bO l)) (eX (bO l)).length:=by rw [eP,List.take_length];rfl
  have eE:pg t l=iZ t (bO l) (eX (bO l)) (eX (bO l)).length:=by rw [iZ,List.take_length];rfl
  have hbl:=CQ t (bO l) (eX (bO l)).length (eX (bO l));have hvl:=AC (bO l);have hTl:(bP (allT t l)).length≤1000000:=by
   rw [oQ,eT];have h1:(eX (bO l)).length*(17*(bO l).length)≤20*(17*20):=Nat.mul_le_mul (by omega) (by omega);have h2:=hbl.1;unfold eP;omega
  have hEl:(bR (pg t l)).length≤1000000:=by
   rw [sU,eE];have h1:(eX (bO l)).length*(19*(bO l).length)≤20*(19*20):=Nat.mul_le_mul (by omega) (by omega);have h2:=hbl.2;unfold iZ;omega
  have s1:=fun H:ak=>EL (gl:=gl) (h:=H) (bP (allT t l)) (Rs.ro (Cy _)) (Rs.ro (Cy _)) hTl hst;have s2:=fun H:ak=>mI (gl:=gl) (h:=H) (bR (pg t l)) (Rs.ro (zS _)) (Rs.ro (zS _)) hEl;rw [hE] at c1;simp only [av] at c1 c2;generalize bP (allT t l)=T at*;generalize bR (pg t l)=E at*;simp [au];refine ay.pure _ (fun _=>c1 _) ?_;simp [au];refine ay.pure _ (fun _=>c2 _) ?_;simp [au];refine ay.pure _ (fun _=>s1 _) ?_;simp [au];refine ay.pure _ (fun _=>s2 _) ?_;simp [au];refine ay.pure _ (fun _=>aw _) ?_;simp [au]
end Go.Proofs.YtkpioblbeiaefaaGreat
end
section
namespace Go.Abs
open Go Go.ChangeShapes Go.WideShapes Go.RowKit
def Sh.okN (N:Nat):Sh→List AV→Prop
 | .sl e,es=> ∃l:List (List AV),es=[.ro l]∧l.length≤N∧ ∀x∈l,e.okN N x
 | .st f,es=>f.okN N es
 | .cons a r,es=> ∃x y,es=x++y∧x.length=a.n∧a.okN N x∧r.okN N y
 | .str,es=> ∃s:List UInt8,es=[.str s]∧s.length≤N
 | _,_=>True
structure rM {H:Type} (B:DataW H→Nat):Prop where
 st: ∀bytes,bytes.length≤B (.lit (.string bytes))
 sl: ∀elems spare,elems.length≤B (.slice elems spare)
 el: ∀elems spare d,d∈elems→B d≤B (.slice elems spare)
 ag: ∀parts d,d∈parts→B d≤B (.agg parts)
section
variable {H : Type} {enc : TypeId × Value → H} {P : Program} {w : World} {O : Nat → Prop} {J : List eF}
theorem Km {t:TypeId} {fs:Array Field} {fuel:Nat} {cs:List Value} {x:DataW H×List MemPlace} (ht:P.underlying t=some (.struct fs))(h:DataW.trod enc P w 0 (fun _=>true) true fuel t cs=some x):
  ∃(xs:List (DataW H×List MemPlace)) (n:Nat),cs.length=P.cellsOf t∧(fs.toList.mapM fun f=>DataW.trod enc P w 0 (fun _=>true) true n f.type ((cs.drop f.offset).take (P.cellsOf f.type)))=some xs∧x.1= .agg (xs.map (·.1)):=by
 cases fuel with
 | zero=>simp [DataW.trod] at h
 | succ n=>
  unfold DataW.trod at h;rw [ht] at h;split at h <;> simp_all
  obtain⟨hl,xs,hp,hd⟩:=h;exact⟨xs,⟨n,hp⟩,by rw [←hd]⟩
theorem MG (hO: ∀r,r<w.heap.size→ ¬O r)(sh:Sh):
  (∀(t:TypeId) (cs:List Value) (fuel:Nat) (x:DataW H×List MemPlace),sh.isTy=true→sh.is P t [] 0=true→DataW.trod enc P w 0 (fun _=>true) true fuel t cs=some x→
   ∃es,sh.ok es∧I1 J O w es cs∧es.length=sh.n∧ ∀B:DataW H→Nat,rM B→ ∀N,B x.1≤N→sh.okN N es)∧
  (∀(fs:List Field) (o:Nat) (cs:List Value) (n:Nat) (xs:List (DataW H×List MemPlace)),sh.is P 0 fs o=true→sh.isTy=false→
   (fs.mapM fun f=>DataW.trod enc P w 0 (fun _=>true) true n f.type ((cs.drop f.offset).take (P.cellsOf f.type)))=some xs→cs.length=o+sh.n→
   ∃es,sh.ok es∧I1 J O w es (cs.drop o)∧es.length=sh.n∧ ∀B:DataW H→Nat,rM B→ ∀N,(∀y∈xs,B y.1≤N)→sh.okN N es):=by
 induction sh with
 | bool=>
  refine⟨fun t cs fuel x _ hi h=> ?_,fun _ _ _ _ _ _ h=>by simp [Sh.isTy] at h⟩;simp only [Sh.is] at hi;split at hi <;> try simp at hi
  rename_i ht;obtain⟨b,rfl,_⟩:=DataW.trod_bool ht h;exact⟨_,⟨b,rfl⟩,.one (.bool b) rfl,rfl,fun _ _ _ _=>trivial⟩
 | int k=>
  refine⟨fun t cs fuel x _ hi h=> ?_,fun _ _ _ _ _ _ h=>by simp [Sh.isTy] at h⟩;simp only [Sh.is] at hi;split at hi <;> try simp at hi
  rename_i ht;subst hi;obtain⟨n,rfl,_,hw⟩:=DataW.trod_int ht h;exact⟨_,⟨n,rfl,hw⟩,.one (.int _ n) rfl,rfl,fun _ _ _ _=>trivial⟩
 | str=>
  refine⟨fun t cs fuel x _ hi h=> ?_,fun _ _ _ _ _ _ h=>by simp [Sh.isTy] at h⟩;simp only [Sh.is] at hi;split at hi <;> try simp at hi
  rename_i ht;obtain⟨s,rfl,hx,hw⟩:=DataW.trod_string ht h;refine⟨_,⟨s.data.toList,rfl,by rw [Array.length_toList];exact hw⟩,.one ?_ rfl,rfl,fun B hB N hN=>⟨s.data.toList,rfl,by rw [hx] at hN;exact Nat.le_trans (hB.st _) hN⟩⟩;exact aQ.str _
 | sl e ih=>
  refine⟨fun t cs fuel x _ hi h=> ?_,fun _ _ _ _ _ _ h=>by simp [Sh.isTy] at h⟩;simp only [Sh.is] at hi;split at hi <;> try simp at hi
  rename_i u ht;obtain⟨⟨hi,hn⟩,hpos⟩:=hi;have hty:e.isTy=true:=by
   cases e <;> simp [Sh.isTy]
   ·simp [Sh.n] at hpos
   ·simp [Sh.is] at hi
  rcases DataW.trod_slice ht h with⟨rfl,_⟩ | ⟨a,len,cap,elems,rest,n,rfl,rfl,hxx,hb,hl,hc,hlen,he,_,_⟩
  ·exact⟨_,⟨[],rfl,Nat.zero_le _,by simp⟩,.one .roNil rfl,rfl,fun _ _ _ _=>⟨[],rfl,Nat.zero_le _,by simp⟩⟩
  ·have key: ∀i:Fin len,∃es:List AV,e.ok es∧ ∃cs,w.cells? 0 (a.add (i*P.cellsOf u)) (P.cellsOf u)=some cs∧I1 J O w es cs∧es.length=e.n∧ ∀B:DataW H→Nat,rM B→ ∀N,B (elems[i.1]'(by rw [hlen];exact i.2)).1≤N→e.okN N es:=by
    intro i;have h1:=he i i.2;rw [zB (by rw [hlen];exact i.2)] at h1;obtain⟨cs,hc1,hc2⟩:=Option.bind_eq_some_iff.1 h1;obtain⟨es,p,q,r,s⟩:=ih.1 _ _ _ _ hty hi hc2;exact⟨es,p,cs,hc1,q,r,s⟩
   obtain⟨g,hg⟩:=Classical.axiomOfChoice key
   let es:=(List.finRange len).map g
   have hes:es.length=len:=by simp [es]
   have hget: ∀(i:Nat) (x:List AV),es[i]? =some x→ ∃hi:i<len,x=g ⟨i,hi⟩:=by
    intro i x hx;have hi:i<len:=by
     rcases zN i len with h | h
     ·exact h
     ·simp [List.getElem?_eq_none (by omega:es.length≤i)] at hx
    refine⟨hi,?_⟩;simp [es,hi] at hx;exact hx.symm
   have hcell: ∀(i:Nat) (x:List AV) (c:Nat) (y:AV),es[i]? =some x→x[c]? =some y→ ∃v,w.cell? (a.add (i*e.n+c))=some v∧aQ J O w y v∧v.oneCell'=true:=by
    intro i x c y hx hy;obtain⟨hi,rfl⟩:=hget i x hx;obtain⟨_,cs,hcs,⟨q1,q2⟩,r,_⟩:=hg ⟨i,hi⟩;obtain⟨_,s1,s2⟩:=World.cells?_some hcs;have hcl:c<(g ⟨i,hi⟩).length:=by
     rcases zN c (g ⟨i,hi⟩).length with h | h
     ·exact h
     ·simp [List.getElem?_eq_none h] at hy
    obtain⟨v,hv⟩: ∃v,cs[c]? =some v:=⟨cs[c]'(by omega),zB (by omega)⟩;have h3:=s2 c (by omega);rw [hv,←hn] at h3;refine⟨v,?_,q2 c y v hy hv⟩;rw [←h3,show (a.add (i*e.n)).add c=a.add (i*e.n+c) from add_add' _ _ _]
   refine⟨[.ro es],⟨es,rfl,by omega,fun x hx=> ?_⟩,.one ?_ rfl,rfl,fun B hB N hN=>⟨es,rfl,?_,fun y hy=> ?_⟩⟩
   ·obtain⟨i,hi⟩:=List.getElem?_of_mem hx;obtain⟨hi',rfl⟩:=hget i x hi;exact (hg ⟨i,hi'⟩).1
   ·rw [←hes];refine aQ.ro es a e.n cap (fun i c=>(w.cell? (a.add (i*e.n+c))).getD undef) (by omega) hpos ?_ ?_ ?_ ?_ ?_
    ·by_cases h0:es=[]
     ·exact .inl h0
     ·right
      have h0':0<len:=by
       rcases Nat.eq_zero_or_pos len with h | h
       ·exact absurd (List.length_eq_zero_iff.1 (hes.trans h)) h0
       ·exact h
      obtain⟨_,cs,hcs,_⟩:=hg ⟨0,h0'⟩;have:=World.cells?_block hcs (by omega);have hbl:a.block<w.heap.size:=by simpa [add_block] using this
      exact⟨hbl,hO _ hbl⟩
    ·intro i x hx;obtain⟨hi,rfl⟩:=hget i x hx;exact (hg ⟨i,hi⟩).2.choose_spec.2.2.1
    ·intro i x c y hx hy;obtain⟨v,hv,_⟩:=hcell i x c y hx hy;simp [hv]
    ·intro i x c y hx hy;obtain⟨v,hv,_,h1⟩:=hcell i x c y hx hy;simp [hv,h1]
    ·intro i x c y hx hy;obtain⟨v,hv,h1,_⟩:=hcell i x c y hx hy;simp [hv,h1]
   ·have:=hB.sl (elems.map (·.1)) (rest.map (·.1));simp only [List.length_map] at this;rw [hxx] at hN;simp only at hN;omega
   ·rw [hxx] at hN;obtain⟨i,hi⟩:=List.getElem?_of_mem hy;obtain⟨hi',rfl⟩:=hget i y hi;refine (hg ⟨i,hi'⟩).2.choose_spec.2.2.2 B hB N (Nat.le_trans (hB.el _ _ _ ?_) hN);exact List.mem_map.2 ⟨_,List.getElem_mem _,rfl⟩
 | st f ih=>
  refine⟨fun t cs fuel x _ hi h=> ?_,fun _ _ _ _ _ _ h=>by simp [Sh.isTy] at h⟩;simp only [Sh.is] at hi;split at hi <;> try simp at hi
  rename_i fs ht;obtain⟨⟨hty,hi⟩,hn⟩:=hi;obtain⟨xs,n,hl,hm,hx⟩:=Km ht h;obtain⟨es,p,q,r,s⟩:=ih.2 fs.toList 0 cs n xs hi hty hm (by omega);refine⟨es,p,by simpa using q,r,fun B hB N hN=>s B hB N fun y hy=>Nat.le_trans (hB.ag (xs.map (·.1)) _ (List.mem_map.2 ⟨y,hy,rfl⟩)) (by rw [←hx];exact hN)⟩
 | none=>
  refine⟨fun _ _ _ _ h=>by simp [Sh.isTy] at h,fun fs o cs n xs hi _ hm hl=> ?_⟩;refine⟨[],rfl,⟨?_,by simp⟩,rfl,fun _ _ _ _=>trivial⟩;simp [Sh.n] at hl;simp [hl]
 | cons a r iha ihr=>
  refine⟨fun _ _ _ _ h=>by simp [Sh.isTy] at h,fun fs o cs n xs hi _ hm hl=> ?_⟩
  cases fs with
  | nil=>simp [Sh.is] at hi
  | cons f fs'=>
   simp only [Sh.is,Bool.and_eq_true,decide_eq_true_eq,Bool.not_eq_true'] at hi;obtain⟨⟨⟨⟨⟨ho,ha⟩,hn⟩,hr⟩,hta⟩,htr⟩:=hi;obtain⟨y,ys,hy,hys,rfl⟩:=Ed hm;simp only [Sh.n] at hl;obtain⟨e1,p1,q1,r1,s1⟩:=iha.1 _ _ _ _ hta ha hy;obtain⟨e2,p2,q2,r2,s2⟩:=ihr.2 fs' (o+a.n) cs n ys hr htr hys (by omega);refine⟨e1++e2,⟨e1,e2,rfl,p1,p2⟩,?_,by simp [Sh.n,r1,r2],fun B hB N hN=>⟨e1,e2,rfl,r1,s1 B hB N (hN y (by simp)),s2 B hB N fun z hz=>hN z (by simp [hz])⟩⟩;have:=q1.append q2;rw [ho,←hn,←List.drop_drop,List.take_append_drop] at this;exact this
def Em (N:Nat)(sh:Sh)(x:AV):Prop:=match sh with | .st f=> ∃es,x= .agg es∧f.okN N es | sh=>sh.okN N [x]
def nP (N:Nat):List Sh→List AV→Prop
 | [],_=>True
 | sh::shs,xs=> ∃x r,xs=x::r∧Em N sh x∧nP N shs r
theorem RB (hO: ∀r,r<w.heap.size→ ¬O r) {r:Reach} {b0:Nat} (sh:Sh) {t:TypeId} {v:Value} {d:DataW H} {ps:List MemPlace} (hty:sh.isTy=true)(hi:sh.is P t [] 0=true)
  (hval:Value.okWide P w r b0 t v) (hd:DataW.Trod enc P w 0 (fun _=>true) true t v d ps): ∃x,Ib sh x∧aQ J O w x v∧ ∀B:DataW H→Nat,rM B→ ∀N,B d≤N→Em N sh x:=by
 obtain⟨fuel,hf⟩:=hd;obtain⟨es,p,q,hn,hs⟩:=(MG (J:=J) hO sh).1 _ _ _ _ hty hi hf;have one:sh.n=1→v.oneCell'=true→sh.ok es→ ∃x,sh.ok [x]∧aQ J O w x v∧ ∀B:DataW H→Nat,rM B→ ∀N,B d≤N→sh.okN N [x]:=by
  intro h1 h2 h3;rw [h1] at hn;obtain⟨x,rfl⟩:=List.length_eq_one_iff.1 hn;have hc:v.cells.toList=[v]:=by cases v <;> simp [Value.oneCell'] at h2 <;> rfl
  rw [hc] at q;exact⟨x,h3,(q.2 0 x v rfl rfl).1,hs⟩
 cases sh with
 | bool=>
  simp only [Sh.is] at hi;split at hi <;> try simp at hi
  rename_i ht;refine one rfl ?_ p;cases v <;> simp [Value.okWide,Cell.okWide,Cell.ok,ht] at hval <;> rfl
 | int k=>
  simp only [Sh.is] at hi;split at hi <;> try simp at hi
  rename_i ht;refine one rfl ?_ p;cases v <;> simp [Value.okWide,Cell.okWide,Cell.ok,ht] at hval <;> rfl
 | str=>
  simp only [Sh.is] at hi;split at hi <;> try simp at hi
  rename_i ht;refine one rfl ?_ p;cases v <;> simp [Value.okWide,Cell.okWide,Cell.ok,ht] at hval <;> rfl
 | sl e=>
  simp only [Sh.is] at hi;split at hi <;> try simp at hi
  rename_i u ht;exact one rfl (okWide_slice ht hval) p
 | st f=>
  simp only [Sh.is] at hi;split at hi <;> try simp at hi
  rename_i fs ht;simp only [Value.okWide,ht] at hval;obtain⟨cs,rfl,_,_⟩:=hval;refine⟨.agg es,⟨es,rfl,p⟩,?_,fun B hB N hN=>⟨es,rfl,hs B hB N hN⟩⟩;have:(Value.agg cs)= .agg cs.toList.toArray:=by simp
  rw [this];refine .agg es cs.toList q.1 ?_ (fun i x v hx hv=>(q.2 i x v hx hv).1);intro v hv;obtain⟨i,hi⟩:=List.getElem?_of_mem hv;have hlt:i<es.length:=by
   rcases zN i es.length with h | h
   ·exact h
   ·rw [q.1] at h;simp [Value.cells] at h;simp [Nat.not_lt.2 h] at hi
  exact (q.2 i _ v (zB hlt) hi).2
 | none=>simp [Sh.isTy] at hty
 | cons a b=>simp [Sh.isTy] at hty
theorem FI (hO: ∀r,r<w.heap.size→ ¬O r) {r:Reach} {b0:Nat}: ∀(shs:List Sh) {ts:List TypeId} {vs:List Value} {ds:List (DataW H)} {ps:List MemPlace},zZ P shs ts=true→
  (∀(j:Nat) t v,ts[j]? =some t→vs[j]? =some v→Value.okWide P w r b0 t v)→DataW.TrodAll enc P w 0 (fun _=>true) true ts vs ds ps→
  ∃xs,En shs xs∧bX J O w xs vs∧ ∀B:DataW H→Nat,rM B→ ∀N,(∀d∈ds,B d≤N)→nP N shs xs
 | [],[],vs,ds,ps,_,_,h=>by
  obtain⟨rfl,rfl,rfl⟩:=trodAll_nil h;exact⟨[],rfl,.nil,fun _ _ _ _=>trivial⟩
 | sh::shs,t::ts,vs,ds,ps,hi,hval,h=>by
  obtain⟨v,vs1,d,ds1,a,b,rfl,rfl,rfl,h1,h2⟩:=trodAll_cons h;simp only [zZ,Bool.and_eq_true] at hi;obtain⟨x,p,q,s⟩:=RB (J:=J) hO sh hi.1.1 hi.1.2 (hval 0 t v rfl rfl) h1;obtain⟨xs,p',q',s'⟩:=FI hO shs hi.2 (fun j t v ht hv=>hval (j+1) t v (by simpa using ht) (by simpa using hv)) h2;exact⟨x::xs,⟨x,xs,rfl,p,p'⟩,.cons q q',fun B hB N hN=>⟨x,xs,rfl,s B hB N (hN _ (by simp)),s' B hB N fun d hd=>hN d (by simp [hd])⟩⟩
 | [],_::_,_,_,_,hi,_,_=>by simp [zZ] at hi
 | _::_,[],_,_,_,hi,_,_=>by simp [zZ] at hi
end
section
variable {H : Type} {enc : TypeId × Value → H} {P : Program} {W W' : World}
theorem wO {gl:aR} {f:FuncId} {fn:Func} {s:ChangeSpec} {apart fresh handsOn again:Bool} {tb:TypeId} (shs:List Sh)
  (K:Kids P (· <P.types.size)) (hz: ∀t e,t<P.types.size→P.underlying t=some (.slice e)→0<P.cellsOf e)
  (hsh:zZ P shs fn.params.toList=true) (hT: ∀t∈fn.params.toList,t<P.types.size) (hr:fn.resultTypes= #[tb]) (hb:P.underlying tb=some .bool)
  (hvars:s.vars=[]) (hfn: ∀ds:List (DataW H),ds.length=fn.params.toList.length→s.fn H ds= { results:=[.lit (.bool true)],args:=ds })
  (hgl: ∀g cs,gl g=some cs→aQ [] (Own [] []) W (.rop [cs] 0 0) (.pointer (some ⟨g,0,none⟩)))
  (base:Nat) (args:Array Value) (ds gs:List (DataW H)) (before:List MemPlace)
  (hlaw: ∀xs,En shs xs→(∀B:DataW H→Nat,rM B→ ∀N,(∀d∈ds,B d≤N)→nP N shs xs)→af P gl f xs [] fun x h'=>x= .bool true)
  (hval: ∀(j:Nat) t v,fn.params[j]? =some t→args[j]? =some v→Value.okWide P W .any base t v)
  (hW:DataW.Whole enc P fn.params.toList s.vars apart W args.toList ds gs before):
  Calls P f args W fun e W'=> ∃v,e= .returned v∧s.post enc P fn apart fresh handsOn again W args v W':=by
 have hW0:=hW;obtain⟨p,q,hA,hV,rfl,hfz,hnd⟩:=hW;have hO: ∀r,r<W.heap.size→ ¬Own [] [] r:=by rintro r _ ⟨b,k,o,h,_⟩;simp at h
 rw [hvars] at hV;obtain⟨rfl,rfl⟩:=trodVars_none hV;obtain⟨xs,hx,hv,hN⟩:=FI (J:=[]) hO shs hsh (fun j t v ht hv=>hval j t v (by simpa using ht) (by simpa using hv)) hA;have hh:dm gl [] [] W:=⟨rfl,by intro b b' k;simp,by intro b k;simp,by intro b k;simp,hgl⟩;have hc:=(hlaw xs hx hN).2 [] W args.toList hh hv;simp only [Array.toArray_toList] at hc;refine Calls.mono' hc ?_;rintro e W' ⟨x,v,J',h',rfl,_,hxv,he,rfl⟩;obtain rfl:v= .bool true:=by cases hxv;rfl
 refine⟨_,rfl,?_⟩;have hold: ∀r,r<W.heap.size→W'.heap[r]? =W.heap[r]? :=fun r hr=>(he.keep r hr (hO r hr)).1;have hlen:=(trodAll_length hA).2;have hfn':=hfn (ds++[]) (by simpa using hlen);rw [List.append_nil] at hfn' hW0;have hlt: ∀p'∈p,p'.block<W.heap.size:=fun p' hp=>DataW.TrodAll.lt hA p' hp;have hkept: ∀may,W.keptBut W' may:=by
  intro may;refine⟨he.os,he.output,fun i hi=> ?_⟩;rw [hold i hi]
  cases W.heap[i]? with
  | none=>rfl
  | some o=>cases o <;> simp
 have hfz': ∀p'∈p,∀b off,p'= .cell b off→W'.frozen? ⟨b,off,none⟩=W.frozen? ⟨b,off,none⟩:=by
  rintro p' hp b off rfl;have:=hold b (hlt _ hp);simp [World.frozen?,this]
 have hagain: ∀sp:Nat→Bool,(∀p'∈p,sp p'.block=true)→DataW.TrodAll enc P W' 0 sp true fn.params.toList args.toList ds p:=fun sp hsp=>Ob K hz hold hT hA hsp;have hres: ∀(b:Nat) (sp:Nat→Bool) (hd:Bool),DataW.TrodAll enc P W' b sp hd fn.resultTypes.toList ((Value.bool true).resultList fn.resultTypes.size) [.lit (.bool true)] []:=by
  intro b sp hd;rw [hr];exact trodAll_cons_mk (shut_bool hb _) trodAll_mk0
 refine⟨ds,[],p,[],p,[],hW0,?_,?_,?_,?_,fun _=> ?_⟩
 ·rw [List.append_nil,hfn'];exact hres _ _ _
 ·rw [List.append_nil,hfn'];exact hagain _ fun p' hp=>by simpa using hlt p' hp
 ·rw [List.append_nil,hfn',hvars];rfl
 ·exact hkept _
 ·refine⟨?_,[.lit (.bool true)]++ds,[],[]++p++[],⟨[]++p,[],trodAll_append (hagain (fun _=>true) fun _ _=>rfl) (hres 0 (fun _=>true) true),by rw [hvars];rfl,rfl,?_,?_⟩,?_⟩
  ·exact ok_one hr rfl (okWide_bool_mk hb _)
  ·intro b off hp;have hp':MemPlace.cell b off∈p:=by simpa using hp
   rw [hfz' _ hp' b off rfl];exact hfz b off (by simpa using hp')
  ·intro ha;simpa using hnd ha
  ·intro p' hp _;simpa using hp
end
theorem uT {N:Nat} {a r:Sh} {v:AV} {vs:List AV} (h:(Sh.cons a r).okN N (v::vs))(ha:a.n=1):a.okN N [v]∧r.okN N vs:=by
 obtain⟨x,y,e,hx,h1,h2⟩:=h;rw [ha] at hx;obtain⟨z,rfl⟩:=List.length_eq_one_iff.1 hx;simp at e;obtain⟨rfl,rfl⟩:=e;exact⟨h1,h2⟩
theorem Xk {N:Nat} {e:Sh} {l:List (List AV)} (h:(Sh.sl e).okN N [.ro l]):l.length≤N∧ ∀x∈l,e.okN N x:=by
 obtain⟨m,e1,h1,h2⟩:=h;simp at e1;subst e1;exact⟨h1,h2⟩
theorem Vd {N:Nat} {s:List UInt8} (h:Sh.str.okN N [.str s]):s.length≤N:=by
 obtain⟨m,e1,h1⟩:=h;simp at e1;subst e1;exact h1
theorem JK {N:Nat} {sh:Sh} {shs:List Sh} {x:AV} {xs:List AV} (h:nP N (sh::shs) (x::xs)):Em N sh x:=by
 obtain⟨a,b,e,h1,_⟩:=h;injection e with e1 _;subst e1;exact h1
theorem JL {N:Nat} {sh:Sh} {shs:List Sh} {x:AV} {xs:List AV} (h:nP N (sh::shs) (x::xs)):nP N shs xs:=by
 obtain⟨a,b,e,_,h1⟩:=h;injection e with _ e1;subst e1;exact h1
end Go.Abs
end
section
namespace Go.Toll
open Go Go.Abs
theorem Be {N:Nat} {a b:Sh} {shs:List Sh} {x y:AV} {xs:List AV} (h:nP N (a::b::shs) (x::y::xs)):Em N b y:=JK (JL h)
theorem GL {x:AV} (h:Ib (.sl EX) x)(hN:Em 1048576 (.sl EX) x): ∃l:List aC,x= .ro (l.map aj)∧ ∀p∈l,p.Ok∧p.plate.length≤1048576:=by
 obtain⟨l,rfl,_,hl⟩:=Yp (enc:=aj) (Q:=aC.Ok) h fun _=>Td;obtain⟨n1,n2⟩:=Xk (l:=l.map aj) hN;refine⟨l,rfl,fun p hp=>⟨hl p hp,?_⟩⟩;have h1:=n2 (aj p) (List.mem_map.2 ⟨p,hp,rfl⟩);have h2:(Sh.cons .str (.cons .str (.cons RQ (.cons .str (.cons .str (.cons RQ (.cons RQ (.cons (.sl Ml) .none)))))))).okN 1048576 (aj p):=h1;have q1:=(uT h2 rfl).2;have q2:=(uT q1 rfl).2;have q3:=(uT q2 rfl).2;have q4:=(uT q3 rfl).2;exact Vd (uT q4 rfl).1
end Go.Toll
end
