/- Part 27 of the lemmas below the statements of this seat: Law21A, Law21B, AbsBridgeU, TollTripShape, Law21D. -/
import Derived.Test.YtkpioblbeiaefaaGreatPe26
set_option linter.unusedSectionVars false
set_option linter.unusedVariables false
set_option linter.unusedSimpArgs false
set_option linter.unnecessarySimpa false
set_option maxRecDepth 100000
section
namespace Go.Proofs.YtkpioblbeiaefaaGreat
open Go Go.Abs Go.Toll
variable {gl : aM} [GOk gl] {h : ae}
theorem IU (t:aZ)(l:List aA) {x:AV} (hx:Rs 8 h x (l.map aj))(hL:nO l)(hT:zt t)(hE:((oJ t l).out).length<20):
  aa Tryz.prog gl 12 [.agg (ay t),x] h fun v h'=>v= .tup [.ro ((gP (oJ t l).trips).map aB),.ro ((jb (oJ t l).out).map bf)]∧h'=h:=by
 refine aa.fresh' ((KN t l hx hL hT hE).mono ?_);rintro v h' ⟨x,y,rfl,h1,h2,hg⟩;exact⟨hg,.tup' (.cons (h1.frz (Nat.le_refl _) (Ch _)) (.cons (h2.frz (Nat.le_refl _) (ER _)) .nil))⟩
theorem Er (t:aZ)(l:List aA) {x:AV} (hx:Rs 8 h x (l.map aj))(hL:nO l)(hT:zt t)(hE:(qy t l).length<20):
  aa Tryz.prog gl 16 [.agg (ay t),x] h fun v h'=>v= .tup [.ro ((gP (allT t l)).map aB),.ro ((jb (qy t l)).map bf)]∧h'=h:=by
 refine aa.fresh' ((PZ t l hx hL hT hE).mono ?_);rintro v h' ⟨x,y,rfl,h1,h2,hg⟩;exact⟨hg,.tup' (.cons (h1.frz (Nat.le_refl _) (Ch _)) (.cons (h2.frz (Nat.le_refl _) (ER _)) .nil))⟩
theorem QL:aa Tryz.prog gl 32 [] h fun v h'=>v= .agg (ay yU)∧h'=h:=by
 refine aa.fresh' (aa.body Tryz.f32 _ mixed Tryz.func32 rfl rfl (by simp [Tryz.ntmps32]) ?_);simp [-lQ];repeat (rw [lQ];simp [-lQ])
 exact .agg' (.cons (qd.ownD (b:=h.length+1) (m:=3) (off:=0) (by simp;rfl) (by omega) (by simp) (by simp [yU]) (by simp [yU])) (.cons .nil (.cons (qd.ownD (b:=h.length+2) (m:=3) (off:=0) (by simp;rfl) (by omega) (by simp) (by simp [yU]) (by simp [yU])) .nil)))
set_option maxHeartbeats 1000000 in
theorem rP (x:bQ) {y:AV} (hy:Rs 3 h y (x.stops.map af))(hn:x.stops.length≤1000000):aa Tryz.prog gl 20 [.agg (eX x y)] h fun v h'=>v= .ro ((aQ x.stops).map aR)∧h'=h:=by
 refine aa.fresh' (aa.body Tryz.f20 _ mixed Tryz.func20 rfl rfl (by simp [Tryz.ntmps20]) ?_);have hyf:=hy.fix;have ly:=(hy.append [.cells 5 [eX x y]]).len2;simp only [eX] at ly;simp [eX,hyf,ly];refine aT.up mixed x.stops.length (fun i fr H=>fr 7=y∧fr 8= .int .i64 x.stops.length∧fr 9= .int .i64 i∧(∃g,H=h++g)∧ ∃z,fr 3=z∧Ls 1 h.length H z ((aQ (x.stops.take i)).map aR)) 0 (by omega)
  ⟨by simp,by simp,by simp,⟨_,rfl⟩,.nil,by simp,by simpa [aQ] using Ls.nil⟩ ?_
 rintro i fr H hi ⟨e7,e8,e9,hB,z,e3,hz⟩;have hzf:=hz.rs.fix;have hlH:=cu hB;have hyH:=Rs.keepB hy hB;rcases zN i x.stops.length with hlt | hge
 ·obtain⟨s,hs,hs'⟩:=aN hlt;have ew:=aC (i:=i) (by omega);have hltI:(i:Int)<x.stops.length:=by omega
  have hsuc:=pE hs;have hpl:=lV (x.stops.take i);have htl:=List.length_take_le i x.stops;have ra:=Rs.ix Tryz.prog hyH i (by omega) (y:=af s) (by simp [hs]);simp only [af] at ra;by_cases c:s.pass=[]
  ·rw [if_pos c] at hsuc;simp [af,e3,e7,e8,e9,hlt,hltI,ra,hyf,c,ew,hzf];exact⟨i+1,by omega,by omega,by omega,aF hB _,by rw [hsuc];exact hz.more _⟩
  ·rw [if_neg c] at hsuc;simp [-ak,-av,-ai,-AV.solid,af,e3,e7,e8,e9,hlt,hltI,ra,hyf,c,hzf];refine aO (lo:=h.length) (n:=1) (es:=(aQ (x.stops.take i)).map aR) (ys:=[aR s.pass]) (by simpa [aR] using hz.more _) (by simp;omega) (by simp [bF,aR]) (by simp;omega) ?_;intro s1 H1 hs1 hg1 hn1;have hs1f:=hs1.rs.fix;have hB1:=hg1.base h (by omega) (aF hB _);simp [-ak,-av,-ai,-AV.solid,e7,e8,e9,hs1f,ew];exact⟨i+1,by omega,by omega,by omega,hB1,by rw [hsuc];simpa using hs1⟩
 ·obtain rfl:i=x.stops.length:=by omega
  rw [List.take_length] at hz;simp [e3,e7,e8,e9,hzf];exact⟨hB,hz.frz (Nat.le_refl _) (En _)⟩
theorem NH (x:bQ) {y:AV} (hy:Rs 3 h y (x.stops.map af)):qd 0 h (.agg (eX x y)) (.agg (aB x)):=
 .agg' (.cons (.data _ (by simp)) (.cons (.data _ (by simp)) (.cons (.data _ (by simp)) (.cons (.data _ (by simp)) (.cons (hy.frz (Ky _)) .nil)))))
def uD:Nat→Option (List (Nat×Nat)):=fun id=>if id=2∨id=3 then some [(0,3)] else none
theorem UD:zt yU:=⟨by decide,by decide,by decide,by decide⟩
theorem UC:nD.Ok:=⟨rfl,by unfold iC;decide,by unfold iC;decide,by unfold iC;decide,by unfold iC;decide,fun s hs=>by
 have:nD.srcs=[⟨[99,49],5⟩]:=rfl;rw [this] at hs;obtain rfl:=List.mem_singleton.1 hs;unfold iC;decide,by decide⟩
theorem UB:nO [nD]:=⟨fun p hp=>by obtain rfl:=List.mem_singleton.1 hp;exact⟨UC,by decide⟩,fun p hp=>by obtain rfl:=List.mem_singleton.1 hp;decide,by decide⟩
theorem Oc {x:AV} (hx:Rs 8 h x ([nD].map aj)):aa Tryz.prog gl 12 [.agg (ay yU),x] h fun v h'=>v= .tup [.ro [aB yB],.ro []]∧h'=h:=by
 have:=IU (gl:=gl) yU [nD] hx UB UD (by unfold oJ;rw [EI,Od,Ob];decide);unfold oJ at this;rw [EI,Od,Rh,Ob] at this;exact this
theorem Sb {x:AV} (hx:Rs 8 h x ([nD].map aj)):aa Tryz.prog gl 16 [.agg (ay yU),x] h fun v h'=>v= .tup [.ro [aB yB],.ro []]∧h'=h:=by
 have e1:Jc yU [nD]=[bR yU [nD] [65,66,49,50]]:=by
  unfold Jc;rw [EI,Qp];simp only [List.map_cons,List.map_nil,UE]
 have e2:allT yU [nD]=[yB]:=by
  unfold allT;rw [e1];simp only [List.flatMap_cons,List.flatMap_nil,List.append_nil];exact Rh
 have e3:qy yU [nD]=[]:=by
  unfold qy;rw [e1];simp only [List.flatMap_cons,List.flatMap_nil,List.append_nil];exact Ob
 have:=Er (gl:=gl) yU [nD] hx UB UD (by rw [e3];decide);rw [e2,e3] at this;exact this
set_option maxHeartbeats 4000000 in
theorem xe:aa Tryz.prog gl 11 [] h fun v h'=>v= .bool true∧h'=h:=by
 refine aa.data (.bool _) (aa.bodyF 2 Tryz.f11 _ mixed Tryz.func11 rfl rfl (by simp [Tryz.ntmps11]) ?_);simp [-lQ];repeat (rw [lQ];simp [-lQ])
 refine aT.freezeF (lo:=h.length) (n:=2) (es:=[[.str [99,49],.int .i64 5]]) 9 (h.length+1) 8 [.str [99,49,46,53],.str [111],.int .i64 100,.str [],.str [65,66,49,50],.int .i64 2,.int .i64 0] [] (by simp) (Ls.own (b:=h.length) (by simp) (Nat.le_refl _) rfl (by simp)).z (by simp) (fun off len e=>by injection e with e;omega) ?_;intro fr2 H2 _ qf hP2 hk2 hb2 hl2;have f1:fr2 1= .ptr (h.length+1) 0 0:=by rw [qf 1 (by decide)];simp
 have hB: ∃g,H2=h++g:=hb2 h (Nat.le_refl _) (by omega) ⟨_,rfl⟩;have hP:H2[h.length+1]? =some (.cells 8 [aj nD]):=hP2;clear hP2 hk2 hb2 qf;have hP3:=at3 hP;simp only [aj] at hP3;have nt:=fun H:ae=>QL (gl:=gl) (h:=H);have bl:=fun (H:ae) (b:Nat) (hb:H[b]? =some (.cells 8 [aj nD]))=>(Oc (gl:=gl) (h:=H) (x:= .own b 0 1) (Rs.own (b:=b) (es:=[aj nD]) hb (by simp)));have al:=fun (H:ae) (b:Nat) (hb:H[b]? =some (.cells 8 [aj nD]))=>(Sb (gl:=gl) (h:=H) (x:= .own b 0 1) (Rs.own (b:=b) (es:=[aj nD]) hb (by simp)));refine aT.of_awpL uD mixed _ _ _ _ ?_;simp [uD,f1];refine⟨by decide,?_⟩;refine ax.pure _ (fun _=>nt _) ?_;simp [uD,f1,hP3,ay];refine ax.pure _ (fun _=>bl _ _ (by simp [aj])) ?_;simp [uD,f1,hP3,ay];refine⟨ax.pure _ (fun _=>nt _) (by simp [ay]),by decide,?_⟩;refine ax.pure _ (fun _=>nt _) ?_;simp [uD,f1,hP3,ay];refine ax.pure _ (fun _=>al _ _ (by simp [aj])) ?_;simp [uD,f1,hP3,ay];refine⟨ax.pure _ (fun _=>nt _) (by simp [ay]),?_⟩;have S0:yB.stops.map af=[[.str [111],.int .i64 100,.str [99,49,46,53]]]:=rfl;have rs:=fun (H:ae) (b:Nat) (hb:H[b]? =some (.cells 3 [[.str [111],.int .i64 100,.str [99,49,46,53]]]))=>(Rs.own (b:=b) (es:=yB.stops.map af) (n:=3) (by rw [S0];exact hb) (by rw [S0];simp):Rs 3 H (.own b 0 1) (yB.stops.map af));have pas:=fun (H:ae) (b:Nat) hb=>(rP (gl:=gl) (h:=H) yB (rs H b hb) (by decide));have one:=fun (H:ae) (b:Nat) hb=>(Nb (gl:=gl) (h:=H) yB (rs H b hb) (by decide));have fz:=fun (H:ae) (b:Nat) hb=>NH (h:=H) yB (rs H b hb);have chk:=fun (H:ae) (b:Nat) hb=>(aa.borrow (gl:=gl) (h:=H) (args:=[.agg (ay yU),.agg (eX yB (.own b 0 1))]) (r:= .int .i64 (fu yU yB)) (.int _ _) (.cons (.data _ (by simp [ay])) (.cons (fz H b hb) .nil)) (uT yU yB (by decide) (by decide) (by decide) (by decide)));have idc:=fun (H:ae) (b:Nat) hb=>(aa.borrow (gl:=gl) (h:=H) (args:=[.agg (eX yB (.own b 0 1))]) (r:= .str (JF yB)) (.str _) (.cons (fz H b hb) .nil) (zh yB (by decide)));have spn:=fun (H:ae) (b:Nat) hb=>(aa.borrow (gl:=gl) (h:=H) (args:=[.agg (eX yB (.own b 0 1))]) (r:= .agg (pX (p8 yB))) (.agg _ (fun x hx=>by simp [pX] at hx;rcases hx with rfl | rfl <;> exact .int _ _)) (.cons (fz H b hb) .nil) (Es yB (by decide)));have chk0:=fun (H:ae)=>(aa.borrow (gl:=gl) (h:=H) (args:=[.agg (ay yU),.agg [.str [],.str [],.str [],.int .i64 0,.nil]]) (r:= .int .i64 (fu yU ⟨[],[],[],0,[]⟩)) (.int _ _) (.cons (.data _ (by simp [ay])) (.cons (.agg' (.cons (.data _ (by simp)) (.cons (.data _ (by simp)) (.cons (.data _ (by simp)) (.cons (.data _ (by simp)) (.cons .nil .nil)))))) .nil)) (uT yU ⟨[],[],[],0,[]⟩ (by decide) (by decide) (by decide) (by decide)));rw [Qo] at chk0;rw [Sc] at chk;have ps:(aQ yB.stops).map aR=[[.str [99,49,46,53]]]:=rfl;rw [ps] at pas;have di:JF yB=[99,49,46,53]:=rfl;rw [di] at idc;have sp:pX (p8 yB)=[.int .i64 100,.int .i64 101]:=by kernel_rfl
 rw [sp] at spn;obtain⟨N,hN⟩: ∃N:ae,N=H2++[.cells 8 [[.str nD.id,.str nD.point,.int .i64 nD.time,.str nD.tag,.str nD.plate,.int .i64 nD.cls,.int .i64 nD.score,.ro nD.sources]],.cells 8 [[.str nD.id,.str nD.point,.int .i64 nD.time,.str nD.tag,.str nD.plate,.int .i64 nD.cls,.int .i64 nD.score,.ro nD.sources]],.cells 3 [[.str [111],.int .i64 100,.str [99,49,46,53]]],.cells 5 [[.str [99,49,46,53],.str [65,66,49,50],.str [109],.int .i64 2,.own (H2.length+2) 0 1]]]:=⟨_,rfl⟩;have hNS:N[H2.length+2]? =some (.cells 3 [[.str [111],.int .i64 100,.str [99,49,46,53]]]):=by rw [hN,zD (by omega),show H2.length+2 - H2.length=2 from by omega];rfl
 have hNX:N[H2.length+2+1]? =some (.cells 5 [[.str [99,49,46,53],.str [65,66,49,50],.str [109],.int .i64 2,.own (H2.length+2) 0 1]]):=by rw [hN,zD (by omega),show H2.length+2+1 - H2.length=3 from by omega];rfl
 have hNB: ∃g,N=h++g:=by rw [hN];exact aF hB _
 have hX3:=at3 hNX;have hS3:=at3 hNS;rw [←hN];refine ax.pure _ (fun _=>pas _ _ hNS) ?_;have tk:List.take 5 (aB yB)=aB yB:=rfl;simp [uD,hX3,tk];refine⟨by decide,?_⟩;refine ax.pure _ (fun _=>one _ _ hNS) ?_;simp [uD,hX3,tk];refine ax.pure _ (fun _=>one _ _ hNS) ?_;simp [uD,hX3];refine ax.pure _ (fun _=>nt _) ?_;simp [uD,hX3];refine ax.pure _ (fun _=>chk _ _ hNS) ?_;simp [uD,hX3];refine ax.pure _ (fun _=>nt _) ?_;simp [uD,hX3];refine ax.pure _ (fun _=>chk0 _) ?_;simp [uD,hX3];refine ax.pure _ (fun _=>idc _ _ hNS) ?_;simp [uD,hX3];refine ax.pure _ (fun _=>spn _ _ hNS) ?_;simp [uD,hX3];exact hNB
def zQ (t:aZ)(p:aA):Bool:=decide (12<p.sources.length) || !decide (rz t.net p=0)
def gN (t:aZ)(l:List aA)(m:Nat):Bool:=decide (t.net.pts.length≤16∧t.net.lks.length≤40∧t.sys.length≤8∧l.length≤m∧bN t=0) && l.all fun p=> !zQ t p
set_option maxHeartbeats 4000000 in
theorem DR (t : aZ) (l : List aA) (m : Nat) (hm : m ≤ 100) {x : AV} (hx : Rs 8 h x (l.map aj)) (hok : ∀ p ∈ l, p.Ok ∧ p.plate.length ≤ 1048576) :
    aa Tryz.prog gl 10 [.agg (ay t), x, .int .i64 m] h fun v h' => v = .bool (gN t l m) ∧ h' = h := by
  refine aa.data (by simp) (aa.body Tryz.f10 _ mixed Tryz.func10 rfl rfl (by simp [Tryz.ntmps10]) ?_)
  have fx := hx.fix
  have hxG := hx.append [.cells 3 [ay t]]
  have lx := hxG.len2
  simp only [ay] at lx
  by_cases c1 : 16 < t.net.pts.length
  · have e : gN t l m = false := by unfold gN; rw [decide_eq_false (by omega)]; rfl
    have c1' : (16 : Int) < t.net.pts.length := by omega
    rw [e]
    simp [au, fx, ay, c1, c1']
    refine ax.pure (.int .i64 0) (fun c => by cases c) ?_
    simp [au]
  have c1' : ¬ (16 : Int) < t.net.pts.length := by omega
  by_cases c2 : 40 < t.net.lks.length
  · have e : gN t l m = false := by unfold gN; rw [decide_eq_false (by omega)]; rfl
    have c2' : (40 : Int) < t.net.lks.length := by omega
    rw [e]
    simp [au, fx, ay, c1, c1', c2, c2']
    refine ax.pure (.int .i64 0) (fun c => by cases c) ?_
    simp [au]
  have c2' : ¬ (40 : Int) < t.net.lks.length := by omega
  by_cases c3 : 8 < t.sys.length
  · have e : gN t l m = false := by unfold gN; rw [decide_eq_false (by omega)]; rfl
    have c3' : (8 : Int) < t.sys.length := by omega
    rw [e]
    simp [au, fx, ay, c1, c1', c2, c2', c3, c3']
    refine ax.pure (.int .i64 0) (fun c => by cases c) ?_
    simp [au]
  have c3' : ¬ (8 : Int) < t.sys.length := by omega
  by_cases c4 : m < l.length
  · have e : gN t l m = false := by unfold gN; rw [decide_eq_false (by omega)]; rfl
    have c4' : (m : Int) < l.length := by omega
    rw [e]
    simp [au, fx, lx, ay, c1, c1', c2, c2', c3, c3', c4, c4']
    refine ax.pure (.int .i64 0) (fun c => by cases c) ?_
    simp [au]
  have c4' : ¬ (m : Int) < l.length := by omega
  have c4l : (l.length : Int) ≤ m := by omega
  have rc := fun H : ae => yh (gl := gl) (h := H) t (by omega) (by omega) (by omega)
  simp [au, fx, lx, ay, c1, c1', c2, c2', c3, c3', c4, c4']
  refine ax.pure _ (fun _ => by simpa [ay] using rc _) ?_
  by_cases c5 : bN t = 0
  · have e : gN t l m = l.all fun p => !zQ t p := by unfold gN; rw [decide_eq_true (by omega)]; rfl
    rw [e]
    simp [au, fx, ay, c5]
    refine aT.up mixed l.length (fun i fr H => fr 1 = x ∧ fr 3 = .ptr h.length 0 0 ∧ fr 7 = .int .i64 i ∧ (l.all fun p => !zQ t p) = ((l.drop i).all fun p => !zQ t p) ∧ h ++ [.cells 3 [ay t]] = H) 0 (by omega)
      ⟨by simp, by simp, by simp, by simp, by simp [ay]⟩ ?_
    rintro i fr H hi ⟨e1, e3, e7, hf, rfl⟩
    have hT3 := at3 (show (h ++ [.cells 3 [ay t]])[h.length]? = some (.cells 3 [ay t]) by simp)
    simp only [ay] at hT3
    rcases zN i l.length with hlt | hge
    · obtain ⟨p, hp, hp'⟩ := aN hlt
      have ew := aC (i := i) (by omega)
      have hltI : (i : Int) < l.length := by omega
      rw [bv hp, List.all_cons] at hf
      have ra := Rs.ix Tryz.prog hxG i (by omega) (y := aj p) (by simp [hp])
      simp only [aj, ay] at ra
      obtain ⟨hpo, hpl⟩ := hok p (zF hp)
      by_cases d1 : 12 < p.sources.length
      · have d1' : (12 : Int) < p.sources.length := by omega
        have hb : zQ t p = true := by unfold zQ; simp [d1]
        rw [hb] at hf
        rw [hf]
        simp [au, ay, e1, e3, e7, hlt, hltI, fx, lx, ra, d1, d1']
        refine ⟨by decide, ?_⟩
        refine ax.pure (.int .i64 0) (fun c => by cases c) ?_
        simp [au]
      · have d1' : ¬ (12 : Int) < p.sources.length := by omega
        have d1l : (p.sources.length : Int) ≤ 12 := by omega
        have hck := fun H : ae => Ip (gl := gl) (h := H) t.net p hpo (by have : p.srcs.length = p.sources.length := (by unfold aA.srcs; simp); omega) (by omega) (by omega) (by omega)
        simp [au, ay, e1, e3, e7, hlt, hltI, fx, lx, ra, d1, d1', d1l]
        refine ⟨by decide, ?_⟩
        refine ax.pure _ (fun _ => by simpa [aj, dB] using hck _) ?_
        by_cases d2 : rz t.net p = 0
        · have hb : zQ t p = false := by unfold zQ; simp [d1, d2]
          rw [hb] at hf
          simp [au, e1, e3, e7, d2, ew]
          exact ⟨i + 1, by omega, by omega, by omega, by simpa using hf⟩
        · have hb : zQ t p = true := by unfold zQ; simp [d2]
          rw [hb] at hf
          rw [hf]
          simp [au, e1, e3, e7, d2]
    · obtain rfl : i = l.length := by omega
      rw [List.drop_length] at hf
      rw [hf]
      simp [au, ay, e1, e3, e7, fx, lx]
  · have e : gN t l m = false := by unfold gN; rw [decide_eq_false (by omega)]; rfl
    rw [e]
    simp [au, c5]
structure RX (t:aZ)(l:List aA):Prop where
 z:bN t=0
 v: ∀p∈l,uX t p
 L:l.length<20→nO l
 T:zt t
theorem BF {t:aZ} {l:List aA} {m:Nat} (h:gN t l m=true)(hok: ∀p∈l,p.Ok):RX t l∧l.length≤m:=by
 unfold gN at h;simp only [Bool.and_eq_true,decide_eq_true_eq,List.all_eq_true] at h;obtain⟨⟨h1,h2,h3,h4,h5⟩,h6⟩:=h;have hv:=kP h5;have hn:=eQ t;rw [hv] at hn;have hp: ∀p∈l,p.sources.length≤12∧rz t.net p=0:=fun p hp=>by
  have:=h6 p hp;unfold zQ at this;simp at this;exact this
 refine⟨⟨h5,fun p hq=>(D8 (hp p hq).2 h5).1,fun hl=>⟨fun p hq=>⟨hok p hq,by have:=(hp p hq).1;omega⟩,fun p hq=>by have:=(D8 (hp p hq).2 h5).2.2.1;omega,hl⟩,⟨fun p hq=> ?_,by omega,by omega,by omega⟩⟩,h4⟩;have h7:=(lJ hn p hq).1;unfold dZ at h7;simp at h7;omega
set_option maxHeartbeats 2000000 in
theorem JO (t:aZ)(x:bQ):aa Tryz.prog gl 5 [.agg (ay t),.agg (aB x)] h fun v h'=>v= .bool true:=by
 refine aa.body Tryz.f5 _ mixed Tryz.func5 rfl rfl (by simp [Tryz.ntmps5]) ?_;have rt:=fun H:ae=>DR (gl:=gl) (h:=H) t [] 0 (by omega) (x:= .nil) (by simpa using Rs.nil) (by simp);have aw:=fun H:ae=>xe (gl:=gl) (h:=H);simp only [ay] at rt;simp [au,ay,aB];refine ax.pure _ (fun _=>rt _) ?_
 cases hr:gN t [] 0 with
 | false=>
  simp [au];refine ax.pure _ (fun _=>aw _) ?_;simp [au]
 | true=>
  obtain⟨hS,_⟩:=BF hr (by simp);by_cases c:60<x.stops.length
  ·have c':(60:Int)<x.stops.length:=by omega
   simp [au,c,c'];refine ax.pure _ (fun _=>aw _) ?_;simp [au]
  ·have c': ¬(60:Int)<x.stops.length:=by omega
   have c1:=fun H:ae=>uT (gl:=gl) (h:=H) t x (by omega) hS.T.p hS.T.l hS.T.s;have c2:=fun H:ae=>Iu (gl:=gl) (h:=H) t x hS.z (by omega) hS.T.p hS.T.l hS.T.s;simp only [ay,aB] at c1 c2;simp [au,c,c'];refine⟨by decide,?_⟩;refine ax.pure _ (fun _=>c1 _) ?_;simp [au];refine ax.pure _ (fun _=>c2 _) ?_;simp [au];refine ax.pure _ (fun _=>aw _) ?_;simp [au]
set_option maxHeartbeats 2000000 in
theorem MI (x:bQ):aa Tryz.prog gl 6 [.agg (aB x)] h fun v h'=>v= .bool true:=by
 refine aa.body Tryz.f6 _ mixed Tryz.func6 rfl rfl (by simp [Tryz.ntmps6]) ?_;have aw:=fun H:ae=>xe (gl:=gl) (h:=H);by_cases c:100<x.stops.length
 ·have c':(100:Int)<x.stops.length:=by omega
  simp [au,aB,c,c'];refine ax.pure _ (fun _=>aw _) ?_;simp [au]
 ·have c': ¬(100:Int)<x.stops.length:=by omega
  have c'':(x.stops.length:Int)≤100:=by omega
  have p1:=fun H:ae=>nJ (gl:=gl) (h:=H) x (by omega);have p2:=fun H:ae=>BA (gl:=gl) (h:=H) x (by omega);have i1:=fun H:ae=>zh (gl:=gl) (h:=H) x (by omega);have i2:=fun H:ae=>Iw (gl:=gl) (h:=H) x (y:= .ro (x.stops.map af)) (Rs.ro (FZ _)) (by omega);have s1:=fun H:ae=>Es (gl:=gl) (h:=H) x (by omega);have s2:=fun H:ae=>Kc (gl:=gl) (h:=H) x (by omega);rw [NG] at i2;simp only [aB] at p1 p2 i1 i2 s1 s2;have hpl:=lV x.stops;generalize aQ x.stops=P at*;simp [au,aB,c,c',c''];refine ax.pure _ (fun _=>p1 _) ?_;simp [au];refine ax.pure _ (fun _=>p2 _) ?_;simp [au];refine aT.up mixed P.length (fun i fr H=>fr 1= .ptr h.length 0 0∧fr 3= .ro (P.map aR)∧fr 4= .ro (P.map aR)∧fr 5= .int .i64 i∧h++[.cells 5 [aB x]]=H) 0 (by omega)
   ⟨by simp,by simp,by simp,by simp,by simp [aB]⟩ ?_
  rintro i fr H hi ⟨e1,e3,e4,e5,rfl⟩;have hT3:=at3 (show (h++[.cells 5 [aB x]])[h.length]? =some (.cells 5 [aB x]) by simp);simp only [aB] at hT3;rcases zN i P.length with hlt | hge
  ·obtain⟨s,hs,hs'⟩:=aN hlt;have ew:=aC (i:=i) (by omega);have hltI:(i:Int)<P.length:=by omega
   simp [au,e1,e3,e4,e5,hlt,hltI,hs,hs',aR,ew];exact⟨by decide,i+1,by omega,by omega,by omega⟩
  ·obtain rfl:i=P.length:=by omega
   have fin: ∀q:Prop,q→q:=fun _ h=>h;by_cases z:x.stops=[]
   ·simp [au,e1,e3,e4,e5,hT3,aB,z];refine⟨by decide,?_⟩;rw [z] at i1 i2 s1 s2;refine ax.pure _ (fun _=>i1 _) ?_;simp [au,e1,hT3,aB,z];refine ax.pure _ (fun _=>i2 _) ?_;simp [au,e1,hT3,aB,z];refine ax.pure _ (fun _=>s1 _) ?_;simp [au,e1,hT3,aB,z];refine ax.pure _ (fun _=>s2 _) ?_;simp [au,pX];refine ax.pure _ (fun _=>aw _) ?_;simp [au]
   ·have hpos:=List.length_pos_iff.2 z;have hposI:(0:Int)<x.stops.length:=by omega
    have hlt:x.stops.length - 1<x.stops.length:=by omega
    have w1:IntKind.i64.wrap ((x.stops.length:Int) - 1)=((x.stops.length - 1:Nat):Int):=by rw [aD (by omega) (by omega)];omega
    obtain⟨b,hb,hb'⟩:=aN (l:=x.stops) (i:=x.stops.length - 1) (by omega);by_cases g:b.time=9223372036854775807
    ·simp [au,e1,e3,e4,e5,hT3,aB,af,z,hpos,hposI,hlt,w1,hb,hb',g];refine⟨by decide,?_⟩;refine ax.pure _ (fun _=>i1 _) ?_;simp [au,e1,hT3,aB];refine ax.pure _ (fun _=>i2 _) ?_;simp [au];refine ax.pure _ (fun _=>aw _) ?_;simp [au]
    ·simp [au,e1,e3,e4,e5,hT3,aB,af,z,hpos,hposI,hlt,w1,hb,hb',g];refine⟨by decide,?_⟩;refine ax.pure _ (fun _=>i1 _) ?_;simp [au,e1,hT3,aB];refine ax.pure _ (fun _=>i2 _) ?_;simp [au,e1,hT3,aB];refine ax.pure _ (fun _=>s1 _) ?_;simp [au,e1,hT3,aB];refine ax.pure _ (fun _=>s2 _) ?_;simp [au,pX];refine ax.pure _ (fun _=>aw _) ?_;simp [au]
end Go.Proofs.YtkpioblbeiaefaaGreat
end
section
namespace Go.Abs
open Go Go.ChangeShapes Go.WideShapes Go.RowKit
def Sh.okN (N:Nat):Sh→List AV→Prop
 | .sl e,es=> ∃l:List (List AV),es=[.ro l]∧l.length≤N∧ ∀x∈l,e.okN N x
 | .st f,es=>f.okN N es
 | .cons a r,es=> ∃x y,es=x++y∧x.length=a.n∧a.okN N x∧r.okN N y
 | .str,es=> ∃s:List UInt8,es=[.str s]∧s.length≤N
 | _,_=>True
structure qj {H:Type} (B:DataW H→Nat):Prop where
 st: ∀bytes,bytes.length≤B (.lit (.string bytes))
 sl: ∀elems spare,elems.length≤B (.slice elems spare)
 el: ∀elems spare d,d∈elems→B d≤B (.slice elems spare)
 ag: ∀parts d,d∈parts→B d≤B (.agg parts)
section
variable {H : Type} {enc : TypeId × Value → H} {P : Program} {w : World} {O : Nat → Prop} {J : List dH}
theorem Gf {t:TypeId} {fs:Array Field} {fuel:Nat} {cs:List Value} {x:DataW H×List MemPlace} (ht:P.underlying t=some (.struct fs))(h:DataW.trod enc P w 0 (fun _=>true) true fuel t cs=some x):
  ∃(xs:List (DataW H×List MemPlace)) (n:Nat),cs.length=P.cellsOf t∧(fs.toList.mapM fun f=>DataW.trod enc P w 0 (fun _=>true) true n f.type ((cs.drop f.offset).take (P.cellsOf f.type)))=some xs∧x.1= .agg (xs.map (·.1)):=by
 cases fuel with
 | zero=>simp [DataW.trod] at h
 | succ n=>
  unfold DataW.trod at h;rw [ht] at h;split at h <;> simp_all
  obtain⟨hl,xs,hp,hd⟩:=h;exact⟨xs,⟨n,hp⟩,by rw [←hd]⟩
theorem IX (hO: ∀r,r<w.heap.size→ ¬O r)(sh:Sh):
  (∀(t:TypeId) (cs:List Value) (fuel:Nat) (x:DataW H×List MemPlace),sh.isTy=true→sh.is P t [] 0=true→DataW.trod enc P w 0 (fun _=>true) true fuel t cs=some x→
   ∃es,sh.ok es∧yz J O w es cs∧es.length=sh.n∧ ∀B:DataW H→Nat,qj B→ ∀N,B x.1≤N→sh.okN N es)∧
  (∀(fs:List Field) (o:Nat) (cs:List Value) (n:Nat) (xs:List (DataW H×List MemPlace)),sh.is P 0 fs o=true→sh.isTy=false→
   (fs.mapM fun f=>DataW.trod enc P w 0 (fun _=>true) true n f.type ((cs.drop f.offset).take (P.cellsOf f.type)))=some xs→cs.length=o+sh.n→
   ∃es,sh.ok es∧yz J O w es (cs.drop o)∧es.length=sh.n∧ ∀B:DataW H→Nat,qj B→ ∀N,(∀y∈xs,B y.1≤N)→sh.okN N es):=by
 induction sh with
 | bool=>
  refine⟨fun t cs fuel x _ hi h=> ?_,fun _ _ _ _ _ _ h=>by simp [Sh.isTy] at h⟩;simp only [Sh.is] at hi;split at hi <;> try simp at hi
  rename_i ht;obtain⟨b,rfl,_⟩:=DataW.trod_bool ht h;exact⟨_,⟨b,rfl⟩,.one (.bool b) rfl,rfl,fun _ _ _ _=>trivial⟩
 | int k=>
  refine⟨fun t cs fuel x _ hi h=> ?_,fun _ _ _ _ _ _ h=>by simp [Sh.isTy] at h⟩;simp only [Sh.is] at hi;split at hi <;> try simp at hi
  rename_i ht;subst hi;obtain⟨n,rfl,_,hw⟩:=DataW.trod_int ht h;exact⟨_,⟨n,rfl,hw⟩,.one (.int _ n) rfl,rfl,fun _ _ _ _=>trivial⟩
 | str=>
  refine⟨fun t cs fuel x _ hi h=> ?_,fun _ _ _ _ _ _ h=>by simp [Sh.isTy] at h⟩;simp only [Sh.is] at hi;split at hi <;> try simp at hi
  rename_i ht;obtain⟨s,rfl,hx,hw⟩:=DataW.trod_string ht h;refine⟨_,⟨s.data.toList,rfl,by rw [Array.length_toList];exact hw⟩,.one ?_ rfl,rfl,fun B hB N hN=>⟨s.data.toList,rfl,by rw [hx] at hN;exact Nat.le_trans (hB.st _) hN⟩⟩;exact aJ.str _
 | sl e ih=>
  refine⟨fun t cs fuel x _ hi h=> ?_,fun _ _ _ _ _ _ h=>by simp [Sh.isTy] at h⟩;simp only [Sh.is] at hi;split at hi <;> try simp at hi
  rename_i u ht;obtain⟨⟨hi,hn⟩,hpos⟩:=hi;have hty:e.isTy=true:=by
   cases e <;> simp [Sh.isTy]
   ·simp [Sh.n] at hpos
   ·simp [Sh.is] at hi
  rcases DataW.trod_slice ht h with⟨rfl,_⟩ | ⟨a,len,cap,elems,rest,n,rfl,rfl,hxx,hb,hl,hc,hlen,he,_,_⟩
  ·exact⟨_,⟨[],rfl,Nat.zero_le _,by simp⟩,.one .roNil rfl,rfl,fun _ _ _ _=>⟨[],rfl,Nat.zero_le _,by simp⟩⟩
  ·have key: ∀i:Fin len,∃es:List AV,e.ok es∧ ∃cs,w.cells? 0 (a.add (i*P.cellsOf u)) (P.cellsOf u)=some cs∧yz J O w es cs∧es.length=e.n∧ ∀B:DataW H→Nat,qj B→ ∀N,B (elems[i.1]'(by rw [hlen];exact i.2)).1≤N→e.okN N es:=by
    intro i;have h1:=he i i.2;rw [zB (by rw [hlen];exact i.2)] at h1;obtain⟨cs,hc1,hc2⟩:=Option.bind_eq_some_iff.1 h1;obtain⟨es,p,q,r,s⟩:=ih.1 _ _ _ _ hty hi hc2;exact⟨es,p,cs,hc1,q,r,s⟩
   obtain⟨g,hg⟩:=Classical.axiomOfChoice key
   let es:=(List.finRange len).map g
   have hes:es.length=len:=by simp [es]
   have hget: ∀(i:Nat) (x:List AV),es[i]? =some x→ ∃hi:i<len,x=g ⟨i,hi⟩:=by
    intro i x hx;have hi:i<len:=by
     rcases zN i len with h | h
     ·exact h
     ·simp [List.getElem?_eq_none (by omega:es.length≤i)] at hx
    refine⟨hi,?_⟩;simp [es,hi] at hx;exact hx.symm
   have hcell: ∀(i:Nat) (x:List AV) (c:Nat) (y:AV),es[i]? =some x→x[c]? =some y→ ∃v,w.cell? (a.add (i*e.n+c))=some v∧aJ J O w y v∧v.oneCell'=true:=by
    intro i x c y hx hy;obtain⟨hi,rfl⟩:=hget i x hx;obtain⟨_,cs,hcs,⟨q1,q2⟩,r,_⟩:=hg ⟨i,hi⟩;obtain⟨_,s1,s2⟩:=World.cells?_some hcs;have hcl:c<(g ⟨i,hi⟩).length:=by
     rcases zN c (g ⟨i,hi⟩).length with h | h
     ·exact h
     ·simp [List.getElem?_eq_none h] at hy
    obtain⟨v,hv⟩: ∃v,cs[c]? =some v:=⟨cs[c]'(by omega),zB (by omega)⟩;have h3:=s2 c (by omega);rw [hv,←hn] at h3;refine⟨v,?_,q2 c y v hy hv⟩;rw [←h3,show (a.add (i*e.n)).add c=a.add (i*e.n+c) from add_add' _ _ _]
   refine⟨[.ro es],⟨es,rfl,by omega,fun x hx=> ?_⟩,.one ?_ rfl,rfl,fun B hB N hN=>⟨es,rfl,?_,fun y hy=> ?_⟩⟩
   ·obtain⟨i,hi⟩:=List.getElem?_of_mem hx;obtain⟨hi',rfl⟩:=hget i x hi;exact (hg ⟨i,hi'⟩).1
   ·rw [←hes];refine aJ.ro es a e.n cap (fun i c=>(w.cell? (a.add (i*e.n+c))).getD undef) (by omega) hpos ?_ ?_ ?_ ?_ ?_
    ·by_cases h0:es=[]
     ·exact .inl h0
     ·right
      have h0':0<len:=by
       rcases Nat.eq_zero_or_pos len with h | h
       ·exact absurd (List.length_eq_zero_iff.1 (hes.trans h)) h0
       ·exact h
      obtain⟨_,cs,hcs,_⟩:=hg ⟨0,h0'⟩;have:=World.cells?_block hcs (by omega);have hbl:a.block<w.heap.size:=by simpa [add_block] using this
      exact⟨hbl,hO _ hbl⟩
    ·intro i x hx;obtain⟨hi,rfl⟩:=hget i x hx;exact (hg ⟨i,hi⟩).2.choose_spec.2.2.1
    ·intro i x c y hx hy;obtain⟨v,hv,_⟩:=hcell i x c y hx hy;simp [hv]
    ·intro i x c y hx hy;obtain⟨v,hv,_,h1⟩:=hcell i x c y hx hy;simp [hv,h1]
    ·intro i x c y hx hy;obtain⟨v,hv,h1,_⟩:=hcell i x c y hx hy;simp [hv,h1]
   ·have:=hB.sl (elems.map (·.1)) (rest.map (·.1));simp only [List.length_map] at this;rw [hxx] at hN;simp only at hN;omega
   ·rw [hxx] at hN;obtain⟨i,hi⟩:=List.getElem?_of_mem hy;obtain⟨hi',rfl⟩:=hget i y hi;refine (hg ⟨i,hi'⟩).2.choose_spec.2.2.2 B hB N (Nat.le_trans (hB.el _ _ _ ?_) hN);exact List.mem_map.2 ⟨_,List.getElem_mem _,rfl⟩
 | st f ih=>
  refine⟨fun t cs fuel x _ hi h=> ?_,fun _ _ _ _ _ _ h=>by simp [Sh.isTy] at h⟩;simp only [Sh.is] at hi;split at hi <;> try simp at hi
  rename_i fs ht;obtain⟨⟨hty,hi⟩,hn⟩:=hi;obtain⟨xs,n,hl,hm,hx⟩:=Gf ht h;obtain⟨es,p,q,r,s⟩:=ih.2 fs.toList 0 cs n xs hi hty hm (by omega);refine⟨es,p,by simpa using q,r,fun B hB N hN=>s B hB N fun y hy=>Nat.le_trans (hB.ag (xs.map (·.1)) _ (List.mem_map.2 ⟨y,hy,rfl⟩)) (by rw [←hx];exact hN)⟩
 | none=>
  refine⟨fun _ _ _ _ h=>by simp [Sh.isTy] at h,fun fs o cs n xs hi _ hm hl=> ?_⟩;refine⟨[],rfl,⟨?_,by simp⟩,rfl,fun _ _ _ _=>trivial⟩;simp [Sh.n] at hl;simp [hl]
 | cons a r iha ihr=>
  refine⟨fun _ _ _ _ h=>by simp [Sh.isTy] at h,fun fs o cs n xs hi _ hm hl=> ?_⟩
  cases fs with
  | nil=>simp [Sh.is] at hi
  | cons f fs'=>
   simp only [Sh.is,Bool.and_eq_true,decide_eq_true_eq,Bool.not_eq_true'] at hi;obtain⟨⟨⟨⟨⟨ho,ha⟩,hn⟩,hr⟩,hta⟩,htr⟩:=hi;obtain⟨y,ys,hy,hys,rfl⟩:=qY hm;simp only [Sh.n] at hl;obtain⟨e1,p1,q1,r1,s1⟩:=iha.1 _ _ _ _ hta ha hy;obtain⟨e2,p2,q2,r2,s2⟩:=ihr.2 fs' (o+a.n) cs n ys hr htr hys (by omega);refine⟨e1++e2,⟨e1,e2,rfl,p1,p2⟩,?_,by simp [Sh.n,r1,r2],fun B hB N hN=>⟨e1,e2,rfl,r1,s1 B hB N (hN y (by simp)),s2 B hB N fun z hz=>hN z (by simp [hz])⟩⟩;have:=q1.append q2;rw [ho,←hn,←List.drop_drop,List.take_append_drop] at this;exact this
def Bb (N:Nat)(sh:Sh)(x:AV):Prop:=match sh with | .st f=> ∃es,x= .agg es∧f.okN N es | sh=>sh.okN N [x]
def ny (N:Nat):List Sh→List AV→Prop
 | [],_=>True
 | sh::shs,xs=> ∃x r,xs=x::r∧Bb N sh x∧ny N shs r
theorem NJ (hO: ∀r,r<w.heap.size→ ¬O r) {r:Reach} {b0:Nat} (sh:Sh) {t:TypeId} {v:Value} {d:DataW H} {ps:List MemPlace} (hty:sh.isTy=true)(hi:sh.is P t [] 0=true)
  (hval:Value.okWide P w r b0 t v) (hd:DataW.Trod enc P w 0 (fun _=>true) true t v d ps): ∃x,x9 sh x∧aJ J O w x v∧ ∀B:DataW H→Nat,qj B→ ∀N,B d≤N→Bb N sh x:=by
 obtain⟨fuel,hf⟩:=hd;obtain⟨es,p,q,hn,hs⟩:=(IX (J:=J) hO sh).1 _ _ _ _ hty hi hf;have one:sh.n=1→v.oneCell'=true→sh.ok es→ ∃x,sh.ok [x]∧aJ J O w x v∧ ∀B:DataW H→Nat,qj B→ ∀N,B d≤N→sh.okN N [x]:=by
  intro h1 h2 h3;rw [h1] at hn;obtain⟨x,rfl⟩:=List.length_eq_one_iff.1 hn;have hc:v.cells.toList=[v]:=by cases v <;> simp [Value.oneCell'] at h2 <;> rfl
  rw [hc] at q;exact⟨x,h3,(q.2 0 x v rfl rfl).1,hs⟩
 cases sh with
 | bool=>
  simp only [Sh.is] at hi;split at hi <;> try simp at hi
  rename_i ht;refine one rfl ?_ p;cases v <;> simp [Value.okWide,Cell.okWide,Cell.ok,ht] at hval <;> rfl
 | int k=>
  simp only [Sh.is] at hi;split at hi <;> try simp at hi
  rename_i ht;refine one rfl ?_ p;cases v <;> simp [Value.okWide,Cell.okWide,Cell.ok,ht] at hval <;> rfl
 | str=>
  simp only [Sh.is] at hi;split at hi <;> try simp at hi
  rename_i ht;refine one rfl ?_ p;cases v <;> simp [Value.okWide,Cell.okWide,Cell.ok,ht] at hval <;> rfl
 | sl e=>
  simp only [Sh.is] at hi;split at hi <;> try simp at hi
  rename_i u ht;exact one rfl (okWide_slice ht hval) p
 | st f=>
  simp only [Sh.is] at hi;split at hi <;> try simp at hi
  rename_i fs ht;simp only [Value.okWide,ht] at hval;obtain⟨cs,rfl,_,_⟩:=hval;refine⟨.agg es,⟨es,rfl,p⟩,?_,fun B hB N hN=>⟨es,rfl,hs B hB N hN⟩⟩;have:(Value.agg cs)= .agg cs.toList.toArray:=by simp
  rw [this];refine .agg es cs.toList q.1 ?_ (fun i x v hx hv=>(q.2 i x v hx hv).1);intro v hv;obtain⟨i,hi⟩:=List.getElem?_of_mem hv;have hlt:i<es.length:=by
   rcases zN i es.length with h | h
   ·exact h
   ·rw [q.1] at h;simp [Value.cells] at h;simp [Nat.not_lt.2 h] at hi
  exact (q.2 i _ v (zB hlt) hi).2
 | none=>simp [Sh.isTy] at hty
 | cons a b=>simp [Sh.isTy] at hty
theorem Ci (hO: ∀r,r<w.heap.size→ ¬O r) {r:Reach} {b0:Nat}: ∀(shs:List Sh) {ts:List TypeId} {vs:List Value} {ds:List (DataW H)} {ps:List MemPlace},mh P shs ts=true→
  (∀(j:Nat) t v,ts[j]? =some t→vs[j]? =some v→Value.okWide P w r b0 t v)→DataW.TrodAll enc P w 0 (fun _=>true) true ts vs ds ps→
  ∃xs,q9 shs xs∧bC J O w xs vs∧ ∀B:DataW H→Nat,qj B→ ∀N,(∀d∈ds,B d≤N)→ny N shs xs
 | [],[],vs,ds,ps,_,_,h=>by
  obtain⟨rfl,rfl,rfl⟩:=trodAll_nil h;exact⟨[],rfl,.nil,fun _ _ _ _=>trivial⟩
 | sh::shs,t::ts,vs,ds,ps,hi,hval,h=>by
  obtain⟨v,vs1,d,ds1,a,b,rfl,rfl,rfl,h1,h2⟩:=trodAll_cons h;simp only [mh,Bool.and_eq_true] at hi;obtain⟨x,p,q,s⟩:=NJ (J:=J) hO sh hi.1.1 hi.1.2 (hval 0 t v rfl rfl) h1;obtain⟨xs,p',q',s'⟩:=Ci hO shs hi.2 (fun j t v ht hv=>hval (j+1) t v (by simpa using ht) (by simpa using hv)) h2;exact⟨x::xs,⟨x,xs,rfl,p,p'⟩,.cons q q',fun B hB N hN=>⟨x,xs,rfl,s B hB N (hN _ (by simp)),s' B hB N fun d hd=>hN d (by simp [hd])⟩⟩
 | [],_::_,_,_,_,hi,_,_=>by simp [mh] at hi
 | _::_,[],_,_,_,hi,_,_=>by simp [mh] at hi
end
section
variable {H : Type} {enc : TypeId × Value → H} {P : Program} {W W' : World}
theorem CL {gl:aM} {f:FuncId} {fn:Func} {s:ChangeSpec} {apart fresh handsOn again:Bool} {tb:TypeId} (shs:List Sh)
  (K:Kids P (· <P.types.size)) (hz: ∀t e,t<P.types.size→P.underlying t=some (.slice e)→0<P.cellsOf e)
  (hsh:mh P shs fn.params.toList=true) (hT: ∀t∈fn.params.toList,t<P.types.size) (hr:fn.resultTypes= #[tb]) (hb:P.underlying tb=some .bool)
  (hvars:s.vars=[]) (hfn: ∀ds:List (DataW H),ds.length=fn.params.toList.length→s.fn H ds= { results:=[.lit (.bool true)],args:=ds })
  (hgl: ∀g cs,gl g=some cs→aJ [] (Own [] []) W (.rop [cs] 0 0) (.pointer (some ⟨g,0,none⟩)))
  (base:Nat) (args:Array Value) (ds gs:List (DataW H)) (before:List MemPlace)
  (hlaw: ∀xs,q9 shs xs→(∀B:DataW H→Nat,qj B→ ∀N,(∀d∈ds,B d≤N)→ny N shs xs)→aa P gl f xs [] fun x h'=>x= .bool true)
  (hval: ∀(j:Nat) t v,fn.params[j]? =some t→args[j]? =some v→Value.okWide P W .any base t v)
  (hW:DataW.Whole enc P fn.params.toList s.vars apart W args.toList ds gs before):
  Calls P f args W fun e W'=> ∃v,e= .returned v∧s.post enc P fn apart fresh handsOn again W args v W':=by
 have hW0:=hW;obtain⟨p,q,hA,hV,rfl,hfz,hnd⟩:=hW;have hO: ∀r,r<W.heap.size→ ¬Own [] [] r:=by rintro r _ ⟨b,k,o,h,_⟩;simp at h
 rw [hvars] at hV;obtain⟨rfl,rfl⟩:=trodVars_none hV;obtain⟨xs,hx,hv,hN⟩:=Ci (J:=[]) hO shs hsh (fun j t v ht hv=>hval j t v (by simpa using ht) (by simpa using hv)) hA;have hh:bI gl [] [] W:=⟨rfl,by intro b b' k;simp,by intro b k;simp,by intro b k;simp,hgl⟩;have hc:=(hlaw xs hx hN).2 [] W args.toList hh hv;simp only [Array.toArray_toList] at hc;refine Calls.mono' hc ?_;rintro e W' ⟨x,v,J',h',rfl,_,hxv,he,rfl⟩;obtain rfl:v= .bool true:=by cases hxv;rfl
 refine⟨_,rfl,?_⟩;have hold: ∀r,r<W.heap.size→W'.heap[r]? =W.heap[r]? :=fun r hr=>(he.keep r hr (hO r hr)).1;have hlen:=(trodAll_length hA).2;have hfn':=hfn (ds++[]) (by simpa using hlen);rw [List.append_nil] at hfn' hW0;have hlt: ∀p'∈p,p'.block<W.heap.size:=fun p' hp=>DataW.TrodAll.lt hA p' hp;have hkept: ∀may,W.keptBut W' may:=by
  intro may;refine⟨he.os,he.output,fun i hi=> ?_⟩;rw [hold i hi]
  cases W.heap[i]? with
  | none=>rfl
  | some o=>cases o <;> simp
 have hfz': ∀p'∈p,∀b off,p'= .cell b off→W'.frozen? ⟨b,off,none⟩=W.frozen? ⟨b,off,none⟩:=by
  rintro p' hp b off rfl;have:=hold b (hlt _ hp);simp [World.frozen?,this]
 have hagain: ∀sp:Nat→Bool,(∀p'∈p,sp p'.block=true)→DataW.TrodAll enc P W' 0 sp true fn.params.toList args.toList ds p:=fun sp hsp=>Bw K hz hold hT hA hsp;have hres: ∀(b:Nat) (sp:Nat→Bool) (hd:Bool),DataW.TrodAll enc P W' b sp hd fn.resultTypes.toList ((Value.bool true).resultList fn.resultTypes.size) [.lit (.bool true)] []:=by
  intro b sp hd;rw [hr];exact trodAll_cons_mk (shut_bool hb _) trodAll_mk0
 refine⟨ds,[],p,[],p,[],hW0,?_,?_,?_,?_,fun _=> ?_⟩
 ·rw [List.append_nil,hfn'];exact hres _ _ _
 ·rw [List.append_nil,hfn'];exact hagain _ fun p' hp=>by simpa using hlt p' hp
 ·rw [List.append_nil,hfn',hvars];rfl
 ·exact hkept _
 ·refine⟨?_,[.lit (.bool true)]++ds,[],[]++p++[],⟨[]++p,[],trodAll_append (hagain (fun _=>true) fun _ _=>rfl) (hres 0 (fun _=>true) true),by rw [hvars];rfl,rfl,?_,?_⟩,?_⟩
  ·exact ok_one hr rfl (okWide_bool_mk hb _)
  ·intro b off hp;have hp':MemPlace.cell b off∈p:=by simpa using hp
   rw [hfz' _ hp' b off rfl];exact hfz b off (by simpa using hp')
  ·intro ha;simpa using hnd ha
  ·intro p' hp _;simpa using hp
end
theorem rq {N:Nat} {a r:Sh} {v:AV} {vs:List AV} (h:(Sh.cons a r).okN N (v::vs))(ha:a.n=1):a.okN N [v]∧r.okN N vs:=by
 obtain⟨x,y,e,hx,h1,h2⟩:=h;rw [ha] at hx;obtain⟨z,rfl⟩:=List.length_eq_one_iff.1 hx;simp at e;obtain⟨rfl,rfl⟩:=e;exact⟨h1,h2⟩
theorem Tf {N:Nat} {e:Sh} {l:List (List AV)} (h:(Sh.sl e).okN N [.ro l]):l.length≤N∧ ∀x∈l,e.okN N x:=by
 obtain⟨m,e1,h1,h2⟩:=h;simp at e1;subst e1;exact⟨h1,h2⟩
theorem QR {N:Nat} {s:List UInt8} (h:Sh.str.okN N [.str s]):s.length≤N:=by
 obtain⟨m,e1,h1⟩:=h;simp at e1;subst e1;exact h1
theorem Fx {N:Nat} {sh:Sh} {shs:List Sh} {x:AV} {xs:List AV} (h:ny N (sh::shs) (x::xs)):Bb N sh x:=by
 obtain⟨a,b,e,h1,_⟩:=h;injection e with e1 _;subst e1;exact h1
theorem Fy {N:Nat} {sh:Sh} {shs:List Sh} {x:AV} {xs:List AV} (h:ny N (sh::shs) (x::xs)):ny N shs xs:=by
 obtain⟨a,b,e,_,h1⟩:=h;injection e with _ e1;subst e1;exact h1
end Go.Abs
end
section
namespace Go.Toll
open Go Go.Abs
def PQ:Sh:=VO .str LF .str
def LG:Sh:= .cons .str (.cons .str (.cons .str (.cons LF (.cons (.sl PQ) .none))))
def FU:Sh:= .st LG
theorem QS {es:List AV} (h:PQ.ok es): ∃s:bn,es=af s∧True:=by
 obtain⟨x,y,z,rfl,h1,h2,h3⟩:=JY h;obtain⟨a,rfl,_⟩:=uG h1;obtain⟨b,rfl,_⟩:=CU h2;obtain⟨c,rfl,_⟩:=uG h3;exact⟨⟨a,b,c⟩,rfl,trivial⟩
theorem QU {es:List AV} (h:FU.ok es): ∃x:bQ,es=aB x∧True:=by
 obtain⟨_,_,rfl,h1,_,_,rfl,h2,_,_,rfl,h3,_,_,rfl,h4,_,_,rfl,h5,rfl⟩:=h;obtain⟨a,rfl,_⟩:=uG h1;obtain⟨b,rfl,_⟩:=uG h2;obtain⟨c,rfl,_⟩:=uG h3;obtain⟨d,rfl,_⟩:=CU h4;obtain⟨l,rfl,_,_⟩:=M0 (enc:=af) (Q:=fun _=>True) h5 fun _=>QS;exact⟨⟨a,b,c,d,l⟩,rfl,trivial⟩
theorem Gr {x:AV} (h:x9 FU x): ∃y:bQ,x= .agg (aB y):=by
 obtain⟨y,rfl,_⟩:=Rf (f:=LG) h fun _=>QU;exact⟨y,rfl⟩
theorem H7 {N:Nat} {a b:Sh} {shs:List Sh} {x y:AV} {xs:List AV} (h:ny N (a::b::shs) (x::y::xs)):Bb N b y:=Fx (Fy h)
theorem LY {x:AV} (h:x9 (.sl FR) x)(hN:Bb 1048576 (.sl FR) x): ∃l:List aA,x= .ro (l.map aj)∧ ∀p∈l,p.Ok∧p.plate.length≤1048576:=by
 obtain⟨l,rfl,_,hl⟩:=UA (enc:=aj) (Q:=aA.Ok) h fun _=>O9;obtain⟨n1,n2⟩:=Tf (l:=l.map aj) hN;refine⟨l,rfl,fun p hp=>⟨hl p hp,?_⟩⟩;have h1:=n2 (aj p) (List.mem_map.2 ⟨p,hp,rfl⟩);have h2:(Sh.cons .str (.cons .str (.cons LF (.cons .str (.cons .str (.cons LF (.cons LF (.cons (.sl IC) .none)))))))).okN 1048576 (aj p):=h1;have q1:=(rq h2 rfl).2;have q2:=(rq q1 rfl).2;have q3:=(rq q2 rfl).2;have q4:=(rq q3 rfl).2;exact QR (rq q4 rfl).1
end Go.Toll
end
section
namespace Go.Proofs.YtkpioblbeiaefaaGreat
open Go Go.Abs Go.Toll
variable {gl : aM} [GOk gl] {h : ae}
def cL (L:List Bytes)(id:Bytes)(m:Nat):Nat:=(L.take m).count id
theorem K3 {L:List Bytes} {id a:Bytes} {m:Nat} (h:L[m]? =some a):cL L id (m+1)=if a=id then cL L id m+1 else cL L id m:=by
 rw [cL,zM,h,List.count_append];by_cases c:a=id <;> simp [cL,c]
theorem Rn (L:List Bytes)(id:Bytes)(m:Nat):cL L id m≤m:=Nat.le_trans List.count_le_length (by simp;omega)
theorem Ol (L:List Bytes)(id:Bytes):cL L id L.length=L.count id:=by rw [cL,List.take_length]
def cT (T:List bQ)(id:Bytes)(k:Nat):Nat:=((T.take k).flatMap fun x=>aQ x.stops).count id
theorem Qt {T:List bQ} {id:Bytes} {x:bQ} {k:Nat} (h:T[k]? =some x):cT T id (k+1)=cT T id k+(aQ x.stops).count id:=by
 rw [cT,zM,h];simp [cT]
theorem Sw (T:List bQ)(id:Bytes):cT T id T.length=(T.flatMap fun x=>aQ x.stops).count id:=by rw [cT,List.take_length]
theorem UU (T:List bQ)(id:Bytes)(k:Nat):cT T id k≤(T.flatMap fun x=>aQ x.stops).count id:=by
 conv=>rhs;rw [←List.take_append_drop k T]
 rw [List.flatMap_append,List.count_append,cT];omega
set_option maxHeartbeats 8000000 in
theorem OI (t:aZ)(l:List aA)(hok: ∀p∈l,p.Ok∧p.plate.length≤1048576):aa Tryz.prog gl 7 [.agg (ay t),.ro (l.map aj)] h fun v h'=>v= .bool true:=by
 refine aa.body Tryz.f7 _ mixed Tryz.func7 rfl rfl (by simp [Tryz.ntmps7]) ?_;have hx: ∀H:ae,Rs 8 H (.ro (l.map aj)) (l.map aj):=fun H=>Rs.ro (FB l);have rt:=fun H:ae=>DR (gl:=gl) (h:=H) t l 16 (by omega) (hx H) hok;have aw:=fun H:ae=>xe (gl:=gl) (h:=H);simp only [ay] at rt;simp [au,ay];refine ax.pure _ (fun _=>rt _) ?_
 cases hr:gN t l 16 with
 | false=>
  simp [au];refine ax.pure _ (fun _=>aw _) ?_;simp [au]
 | true=>
  obtain⟨hS,hl⟩:=BF hr (fun p hp=>(hok p hp).1);have hL:=hS.L (by omega);have hE1:=N8 hS.z hS.v (by omega);have hb20:(qy t l).length<20:=by omega
  have c1:=fun H:ae=>Er (gl:=gl) (h:=H) t l (hx H) hL hS.T hb20;have hol:=vZ l;have hst: ∀z∈gP (allT t l),z.stops.length≤1000000:=fun z hz=>by
   have:=Qn t l z ((dL _).1 hz);omega
  have eT:allT t l=ku t (bT l) (gQ (bT l)) (gQ (bT l)).length:=by rw [ku,List.take_length];rfl
  have hbl:=Gl t (bT l) (gQ (bT l)).length (gQ (bT l));have hvl:=Ev (bT l);have hTl:(gP (allT t l)).length≤1000000:=by
   rw [Kt,eT];have h1:(gQ (bT l)).length*(17*(bT l).length)≤20*(17*20):=Nat.mul_le_mul (by omega) (by omega);exact Nat.le_trans hbl.1 (by omega)
  have hEl:(jb (qy t l)).length≤1000000:=by rw [jb,bq];omega
  have hone: ∀p∈l,((gP (allT t l)).flatMap fun x=>aQ x.stops).count p.id+((jb (qy t l)).map (·.id)).count p.id=1:=fun p hp=>N9 hS.z hS.v (by omega) hp;clear eT hbl hvl hb20 hE1;simp only [ay] at c1;generalize gP (allT t l)=T at*;generalize jb (qy t l)=E at*;simp [au];refine ax.pure _ (fun _=>c1 _) ?_;simp [au];refine aT.up mixed l.length (fun i fr H=>fr 1= .ro (l.map aj)∧fr 5= .ro (T.map aB)∧fr 6= .ro (E.map bf)∧fr 7= .int .i64 i) 0 (by omega) ⟨by simp,by simp,by simp,by simp⟩ ?_;rintro i fr H hi ⟨e1,e5,e6,e7⟩;rcases zN i l.length with hlt | hge
  ·obtain⟨p,hp,hp'⟩:=aN hlt;have ew:=aC (i:=i) (by omega);have hltI:(i:Int)<l.length:=by omega
   have h1:=hone p (zF hp);have hcT:=UU T p.id;simp [e1,e5,e6,e7,hlt];refine aT.up mixed T.length (fun k fr H=>fr 1= .ro (l.map aj)∧fr 5= .ro (T.map aB)∧fr 6= .ro (E.map bf)∧fr 7= .int .i64 i∧fr 8= .int .i64 (cT T p.id k:Nat)∧fr 9= .int .i64 k) 0 (by omega)
    ⟨by simp [e1],by simp [e5],by simp [e6],by simp [e7],by simp [cT],by simp⟩ ?_
   clear e1 e5 e6 e7;rintro k fr H hk ⟨e1,e5,e6,e7,e8,e9⟩;rcases zN k T.length with hlk | hgk
   ·obtain⟨x,hxk,hxk'⟩:=aN hlk;have hxm:=zF hxk;have ewk:=aC (i:=k) (by omega);have hlkI:(k:Int)<T.length:=by omega
    have pp:=fun H:ae=>rP (gl:=gl) (h:=H) x (y:= .ro (x.stops.map af)) (Rs.ro (FZ _)) (hst x hxm);have hcs:=Qt (id:=p.id) hxk;have hpl:(aQ x.stops).length≤1000000:=Nat.le_trans (lV _) (hst x hxm);simp [e1,e5,e6,e7,e8,e9,hlk,hxk,hxk'];refine ax.pure _ (fun _=>by simpa [aB,eX] using pp _) ?_;simp [e1,e5,e6,e7,e8,e9];refine aT.up mixed (aQ x.stops).length (fun m fr H=>fr 1= .ro (l.map aj)∧fr 5= .ro (T.map aB)∧fr 6= .ro (E.map bf)∧fr 7= .int .i64 i∧fr 8= .int .i64 (cT T p.id k+cL (aQ x.stops) p.id m:Nat)∧fr 9= .int .i64 k∧fr 10= .ro ((aQ x.stops).map aR)∧fr 11= .int .i64 m) 0 (by omega)
     ⟨by simp [e1],by simp [e5],by simp [e6],by simp [e7],by simp [e8,cL],by simp [e9],by simp,by simp⟩ ?_
    clear e1 e5 e6 e7 e8 e9;rintro m fr H hm ⟨e1,e5,e6,e7,e8,e9,e10,e11⟩;have hcl:=Rn (aQ x.stops) p.id m;have hck:=hcT k;rcases zN m (aQ x.stops).length with hlm | hgm
    ·obtain⟨a,ha,ha'⟩:=aN hlm;have ewm:=aC (i:=m) (by omega);have hlmI:(m:Int)<(aQ x.stops).length:=by omega
     have hs:=K3 (id:=p.id) ha;have ewn:IntKind.i64.wrap (((cT T p.id k+cL (aQ x.stops) p.id m:Nat):Int)+1)=((cT T p.id k+cL (aQ x.stops) p.id m+1:Nat):Int):=aC (by omega);simp [-Int.natCast_add,e1,e5,e6,e7,e8,e9,e10,e11,hlm,ha,ha',hlt,hp,hp',aR,aj];refine⟨by decide,?_⟩;by_cases c:a=p.id
     ·rw [if_pos c] at hs;simp [-Int.natCast_add,c,e1,e5,e6,e7,e8,e9,e10,e11,ewm,ewn];exact⟨m+1,by omega,by omega,by rw [hs];omega,by omega⟩
     ·rw [if_neg c] at hs;simp [-Int.natCast_add,c,e1,e5,e6,e7,e8,e9,e10,e11,ewm];exact⟨m+1,by omega,by omega,by rw [hs],by omega⟩
    ·obtain rfl:m=(aQ x.stops).length:=by omega
     rw [Ol,←hcs] at e8;simp [-Int.natCast_add,e1,e5,e6,e7,e8,e9,e10,e11,ewk];exact⟨k+1,by omega,by omega,rfl,by omega⟩
   ·obtain rfl:k=T.length:=by omega
    rw [Sw] at e8;simp [e1,e5,e6,e7,e8,e9];refine aT.up mixed E.length (fun m fr H=>fr 1= .ro (l.map aj)∧fr 5= .ro (T.map aB)∧fr 6= .ro (E.map bf)∧fr 7= .int .i64 i∧fr 8= .int .i64 ((T.flatMap fun x=>aQ x.stops).count p.id+cL (E.map (·.id)) p.id m:Nat)∧fr 12= .int .i64 m) 0 (by omega)
     ⟨by simp [e1],by simp [e5],by simp [e6],by simp [e7],by simp [e8,cL],by simp⟩ ?_
    clear e1 e5 e6 e7 e8 e9;rintro m fr H hm ⟨e1,e5,e6,e7,e8,e12⟩;have hcl:=Rn (E.map (·.id)) p.id m;generalize hN:(T.flatMap fun x=>aQ x.stops).count p.id=N at*;rcases zN m E.length with hlm | hgm
    ·obtain⟨a,ha,ha'⟩:=aN hlm;have ewm:=aC (i:=m) (by omega);have hs:=K3 (L:=E.map (·.id)) (id:=p.id) (a:=a.id) (m:=m) (by simp [ha]);have ewn:IntKind.i64.wrap (((N+cL (E.map (·.id)) p.id m:Nat):Int)+1)=((N+cL (E.map (·.id)) p.id m+1:Nat):Int):=aC (by omega);simp [-Int.natCast_add,e1,e5,e6,e7,e8,e12,hlm,ha,ha',hlt,hp,hp',bf,aj];refine⟨by decide,?_⟩;by_cases c:a.id=p.id
     ·rw [if_pos c] at hs;simp [-Int.natCast_add,c,e1,e5,e6,e7,e8,e12,ewm,ewn];exact⟨m+1,by omega,by omega,by rw [hs];omega,by omega⟩
     ·rw [if_neg c] at hs;simp [-Int.natCast_add,c,e1,e5,e6,e7,e8,e12,ewm];exact⟨m+1,by omega,by omega,by rw [hs],by omega⟩
    ·obtain rfl:m=E.length:=by omega
     have he:cL (E.map (·.id)) p.id E.length=(E.map (·.id)).count p.id:=by have:=Ol (E.map (·.id)) p.id;rwa [List.length_map] at this
     have h1':N+cL (E.map (·.id)) p.id E.length=1:=by rw [he];exact h1
     rw [h1'] at e8;simp [e1,e5,e6,e7,e8,e12,ew];exact⟨i+1,by omega,by omega,by omega⟩
  ·obtain rfl:i=l.length:=by omega
   simp [e1,e5,e6,e7];refine ax.pure _ (fun _=>aw _) ?_;simp [au]
end Go.Proofs.YtkpioblbeiaefaaGreat
end
