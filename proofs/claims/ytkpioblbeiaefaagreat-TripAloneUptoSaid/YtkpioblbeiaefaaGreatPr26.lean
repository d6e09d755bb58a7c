/- Part 26 of the lemmas below the statements of this seat: Law21A, Law21E, AbsBridgeU, TollTripShape. -/
import Derived.Test.YtkpioblbeiaefaaGreatPr25
set_option linter.unusedSectionVars false
set_option linter.unusedVariables false
set_option linter.unusedSimpArgs false
set_option linter.unnecessarySimpa false
set_option maxRecDepth 100000
section
namespace Go.Proofs.YtkpioblbeiaefaaGreat
open Go Go.Abs Go.Toll
variable {gl : aM} [GOk gl] {h : af}
theorem Kk (t:aY)(l:List ay) {x:AV} (hx:Rs 8 h x (l.map ae))(hL:oG l)(hT:A7 t)(hE:((iN t l).out).length<20):
  aa Tryz.prog gl 12 [.agg (aA t),x] h fun v h'=>v= .tup [.ro ((dK (iN t l).trips).map aD),.ro ((iC (iN t l).out).map bf)]∧h'=h:=by
 refine aa.fresh' ((DN t l hx hL hT hE).mono ?_);rintro v h' ⟨x,y,rfl,h1,h2,hg⟩;exact⟨hg,.tup' (.cons (h1.frz (Nat.le_refl _) (DU _)) (.cons (h2.frz (Nat.le_refl _) (GA _)) .nil))⟩
theorem yS (t:aY)(l:List ay) {x:AV} (hx:Rs 8 h x (l.map ae))(hL:oG l)(hT:A7 t)(hE:(og t l).length<20):
  aa Tryz.prog gl 16 [.agg (aA t),x] h fun v h'=>v= .tup [.ro ((dK (allT t l)).map aD),.ro ((iC (og t l)).map bf)]∧h'=h:=by
 refine aa.fresh' ((RI t l hx hL hT hE).mono ?_);rintro v h' ⟨x,y,rfl,h1,h2,hg⟩;exact⟨hg,.tup' (.cons (h1.frz (Nat.le_refl _) (DU _)) (.cons (h2.frz (Nat.le_refl _) (GA _)) .nil))⟩
theorem SH:aa Tryz.prog gl 32 [] h fun v h'=>v= .agg (aA Ap)∧h'=h:=by
 refine aa.fresh' (aa.body Tryz.f32 _ mixed Tryz.func32 rfl rfl (by simp [Tryz.ntmps32]) ?_);simp [-mU];repeat (rw [mU];simp [-mU])
 exact .agg' (.cons (pW.ownD (b:=h.length+1) (m:=3) (off:=0) (by simp;rfl) (by omega) (by simp) (by simp [Ap]) (by simp [Ap])) (.cons .nil (.cons (pW.ownD (b:=h.length+2) (m:=3) (off:=0) (by simp;rfl) (by omega) (by simp) (by simp [Ap]) (by simp [Ap])) .nil)))
set_option maxHeartbeats 1000000 in
theorem DR (x:bW) {y:AV} (hy:Rs 3 h y (x.stops.map ak))(hn:x.stops.length≤1000000):aa Tryz.prog gl 20 [.agg (gB x y)] h fun v h'=>v= .ro ((bu x.stops).map aO)∧h'=h:=by
 refine aa.fresh' (aa.body Tryz.f20 _ mixed Tryz.func20 rfl rfl (by simp [Tryz.ntmps20]) ?_);have hyf:=hy.fix;have ly:=(hy.append [.cells 5 [gB x y]]).len2;simp only [gB] at ly;simp [gB,hyf,ly];refine aT.up mixed x.stops.length (fun i fr H=>fr 7=y∧fr 8= .int .i64 x.stops.length∧fr 9= .int .i64 i∧(∃g,H=h++g)∧ ∃z,fr 3=z∧Ls 1 h.length H z ((bu (x.stops.take i)).map aO)) 0 (by omega)
  ⟨by simp,by simp,by simp,⟨_,rfl⟩,.nil,by simp,by simpa [bu] using Ls.nil⟩ ?_
 rintro i fr H hi ⟨e7,e8,e9,hB,z,e3,hz⟩;have hzf:=hz.rs.fix;have hlH:=bJ hB;have hyH:=Rs.keepB hy hB;rcases zN i x.stops.length with hlt | hge
 ·obtain⟨s,hs,hs'⟩:=aJ hlt;have ew:=aB (i:=i) (by omega);have hltI:(i:Int)<x.stops.length:=by omega
  have hsuc:=vV hs;have hpl:=yC (x.stops.take i);have htl:=List.length_take_le i x.stops;have ra:=Rs.ix Tryz.prog hyH i (by omega) (y:=ak s) (by simp [hs]);simp only [ak] at ra;by_cases c:s.pass=[]
  ·rw [if_pos c] at hsuc;simp [ak,e3,e7,e8,e9,hlt,hltI,ra,hyf,c,ew,hzf];exact⟨i+1,by omega,by omega,by omega,aI hB _,by rw [hsuc];exact hz.more _⟩
  ·rw [if_neg c] at hsuc;simp [-aj,-au,-ah,-AV.solid,ak,e3,e7,e8,e9,hlt,hltI,ra,hyf,c,hzf];refine aN (lo:=h.length) (n:=1) (es:=(bu (x.stops.take i)).map aO) (ys:=[aO s.pass]) (by simpa [aO] using hz.more _) (by simp;omega) (by simp [bE,aO]) (by simp;omega) ?_;intro s1 H1 hs1 hg1 hn1;have hs1f:=hs1.rs.fix;have hB1:=hg1.base h (by omega) (aI hB _);simp [-aj,-au,-ah,-AV.solid,e7,e8,e9,hs1f,ew];exact⟨i+1,by omega,by omega,by omega,hB1,by rw [hsuc];simpa using hs1⟩
 ·obtain rfl:i=x.stops.length:=by omega
  rw [List.take_length] at hz;simp [e3,e7,e8,e9,hzf];exact⟨hB,hz.frz (Nat.le_refl _) (FV _)⟩
theorem Pw (x:bW) {y:AV} (hy:Rs 3 h y (x.stops.map ak)):pW 0 h (.agg (gB x y)) (.agg (aD x)):=
 .agg' (.cons (.data _ (by simp)) (.cons (.data _ (by simp)) (.cons (.data _ (by simp)) (.cons (.data _ (by simp)) (.cons (hy.frz (Mj _)) .nil)))))
def vP:Nat→Option (List (Nat×Nat)):=fun id=>if id=2∨id=3 then some [(0,3)] else none
theorem Ww:A7 Ap:=⟨by decide,by decide,by decide,by decide⟩
theorem Wv:oh.Ok:=⟨rfl,by unfold eG;decide,by unfold eG;decide,by unfold eG;decide,by unfold eG;decide,fun s hs=>by
 have:oh.srcs=[⟨[99,49],5⟩]:=rfl;rw [this] at hs;obtain rfl:=List.mem_singleton.1 hs;unfold eG;decide,by decide⟩
theorem Wu:oG [oh]:=⟨fun p hp=>by obtain rfl:=List.mem_singleton.1 hp;exact⟨Wv,by decide⟩,fun p hp=>by obtain rfl:=List.mem_singleton.1 hp;decide,by decide⟩
theorem PW {x:AV} (hx:Rs 8 h x ([oh].map ae)):aa Tryz.prog gl 12 [.agg (aA Ap),x] h fun v h'=>v= .tup [.ro [aD zZ],.ro []]∧h'=h:=by
 have:=Kk (gl:=gl) Ap [oh] hx Wu Ww (by unfold iN;rw [Gq,PX,PV];decide);unfold iN at this;rw [Gq,PX,TA,PV] at this;exact this
theorem Ux {x:AV} (hx:Rs 8 h x ([oh].map ae)):aa Tryz.prog gl 16 [.agg (aA Ap),x] h fun v h'=>v= .tup [.ro [aD zZ],.ro []]∧h'=h:=by
 have e1:Eb Ap [oh]=[bI Ap [oh] [65,66,49,50]]:=by
  unfold Eb;rw [Gq,Sd];simp only [List.map_cons,List.map_nil,Wx]
 have e2:allT Ap [oh]=[zZ]:=by
  unfold allT;rw [e1];simp only [List.flatMap_cons,List.flatMap_nil,List.append_nil];exact TA
 have e3:og Ap [oh]=[]:=by
  unfold og;rw [e1];simp only [List.flatMap_cons,List.flatMap_nil,List.append_nil];exact PV
 have:=yS (gl:=gl) Ap [oh] hx Wu Ww (by rw [e3];decide);rw [e2,e3] at this;exact this
set_option maxHeartbeats 4000000 in
theorem Fg:aa Tryz.prog gl 11 [] h fun v h'=>v= .bool true∧h'=h:=by
 refine aa.data (.bool _) (aa.bodyF 2 Tryz.f11 _ mixed Tryz.func11 rfl rfl (by simp [Tryz.ntmps11]) ?_);simp [-mU];repeat (rw [mU];simp [-mU])
 refine aT.freezeF (lo:=h.length) (n:=2) (es:=[[.str [99,49],.int .i64 5]]) 9 (h.length+1) 8 [.str [99,49,46,53],.str [111],.int .i64 100,.str [],.str [65,66,49,50],.int .i64 2,.int .i64 0] [] (by simp) (Ls.own (b:=h.length) (by simp) (Nat.le_refl _) rfl (by simp)).z (by simp) (fun off len e=>by injection e with e;omega) ?_;intro fr2 H2 _ qf hP2 hk2 hb2 hl2;have f1:fr2 1= .ptr (h.length+1) 0 0:=by rw [qf 1 (by decide)];simp
 have hB: ∃g,H2=h++g:=hb2 h (Nat.le_refl _) (by omega) ⟨_,rfl⟩;have hP:H2[h.length+1]? =some (.cells 8 [ae oh]):=hP2;clear hP2 hk2 hb2 qf;have hP3:=at3 hP;simp only [ae] at hP3;have nt:=fun H:af=>SH (gl:=gl) (h:=H);have bl:=fun (H:af) (b:Nat) (hb:H[b]? =some (.cells 8 [ae oh]))=>(PW (gl:=gl) (h:=H) (x:= .own b 0 1) (Rs.own (b:=b) (es:=[ae oh]) hb (by simp)));have al:=fun (H:af) (b:Nat) (hb:H[b]? =some (.cells 8 [ae oh]))=>(Ux (gl:=gl) (h:=H) (x:= .own b 0 1) (Rs.own (b:=b) (es:=[ae oh]) hb (by simp)));refine aT.of_awpL vP mixed _ _ _ _ ?_;simp [vP,f1];refine⟨by decide,?_⟩;refine ax.pure _ (fun _=>nt _) ?_;simp [vP,f1,hP3,aA];refine ax.pure _ (fun _=>bl _ _ (by simp [ae])) ?_;simp [vP,f1,hP3,aA];refine⟨ax.pure _ (fun _=>nt _) (by simp [aA]),by decide,?_⟩;refine ax.pure _ (fun _=>nt _) ?_;simp [vP,f1,hP3,aA];refine ax.pure _ (fun _=>al _ _ (by simp [ae])) ?_;simp [vP,f1,hP3,aA];refine⟨ax.pure _ (fun _=>nt _) (by simp [aA]),?_⟩;have S0:zZ.stops.map ak=[[.str [111],.int .i64 100,.str [99,49,46,53]]]:=rfl;have rs:=fun (H:af) (b:Nat) (hb:H[b]? =some (.cells 3 [[.str [111],.int .i64 100,.str [99,49,46,53]]]))=>(Rs.own (b:=b) (es:=zZ.stops.map ak) (n:=3) (by rw [S0];exact hb) (by rw [S0];simp):Rs 3 H (.own b 0 1) (zZ.stops.map ak));have pas:=fun (H:af) (b:Nat) hb=>(DR (gl:=gl) (h:=H) zZ (rs H b hb) (by decide));have one:=fun (H:af) (b:Nat) hb=>(FL (gl:=gl) (h:=H) zZ (rs H b hb) (by decide));have fz:=fun (H:af) (b:Nat) hb=>Pw (h:=H) zZ (rs H b hb);have chk:=fun (H:af) (b:Nat) hb=>(aa.borrow (gl:=gl) (h:=H) (args:=[.agg (aA Ap),.agg (gB zZ (.own b 0 1))]) (r:= .int .i64 (eP Ap zZ)) (.int _ _) (.cons (.data _ (by simp [aA])) (.cons (fz H b hb) .nil)) (wD Ap zZ (by decide) (by decide) (by decide) (by decide)));have idc:=fun (H:af) (b:Nat) hb=>(aa.borrow (gl:=gl) (h:=H) (args:=[.agg (gB zZ (.own b 0 1))]) (r:= .str (Le zZ)) (.str _) (.cons (fz H b hb) .nil) (Il zZ (by decide)));have spn:=fun (H:af) (b:Nat) hb=>(aa.borrow (gl:=gl) (h:=H) (args:=[.agg (gB zZ (.own b 0 1))]) (r:= .agg (Bt (Dr zZ))) (.agg _ (fun x hx=>by simp [Bt] at hx;rcases hx with rfl | rfl <;> exact .int _ _)) (.cons (fz H b hb) .nil) (Px zZ (by decide)));have chk0:=fun (H:af)=>(aa.borrow (gl:=gl) (h:=H) (args:=[.agg (aA Ap),.agg [.str [],.str [],.str [],.int .i64 0,.nil]]) (r:= .int .i64 (eP Ap ⟨[],[],[],0,[]⟩)) (.int _ _) (.cons (.data _ (by simp [aA])) (.cons (.agg' (.cons (.data _ (by simp)) (.cons (.data _ (by simp)) (.cons (.data _ (by simp)) (.cons (.data _ (by simp)) (.cons .nil .nil)))))) .nil)) (wD Ap ⟨[],[],[],0,[]⟩ (by decide) (by decide) (by decide) (by decide)));rw [Sc] at chk0;rw [Uy] at chk;have ps:(bu zZ.stops).map aO=[[.str [99,49,46,53]]]:=rfl;rw [ps] at pas;have di:Le zZ=[99,49,46,53]:=rfl;rw [di] at idc;have sp:Bt (Dr zZ)=[.int .i64 100,.int .i64 101]:=by kernel_rfl
 rw [sp] at spn;obtain⟨N,hN⟩: ∃N:af,N=H2++[.cells 8 [[.str oh.id,.str oh.point,.int .i64 oh.time,.str oh.tag,.str oh.plate,.int .i64 oh.cls,.int .i64 oh.score,.ro oh.sources]],.cells 8 [[.str oh.id,.str oh.point,.int .i64 oh.time,.str oh.tag,.str oh.plate,.int .i64 oh.cls,.int .i64 oh.score,.ro oh.sources]],.cells 3 [[.str [111],.int .i64 100,.str [99,49,46,53]]],.cells 5 [[.str [99,49,46,53],.str [65,66,49,50],.str [109],.int .i64 2,.own (H2.length+2) 0 1]]]:=⟨_,rfl⟩;have hNS:N[H2.length+2]? =some (.cells 3 [[.str [111],.int .i64 100,.str [99,49,46,53]]]):=by rw [hN,zD (by omega),show H2.length+2 - H2.length=2 from by omega];rfl
 have hNX:N[H2.length+2+1]? =some (.cells 5 [[.str [99,49,46,53],.str [65,66,49,50],.str [109],.int .i64 2,.own (H2.length+2) 0 1]]):=by rw [hN,zD (by omega),show H2.length+2+1 - H2.length=3 from by omega];rfl
 have hNB: ∃g,N=h++g:=by rw [hN];exact aI hB _
 have hX3:=at3 hNX;have hS3:=at3 hNS;rw [←hN];refine ax.pure _ (fun _=>pas _ _ hNS) ?_;have tk:List.take 5 (aD zZ)=aD zZ:=rfl;simp [vP,hX3,tk];refine⟨by decide,?_⟩;refine ax.pure _ (fun _=>one _ _ hNS) ?_;simp [vP,hX3,tk];refine ax.pure _ (fun _=>one _ _ hNS) ?_;simp [vP,hX3];refine ax.pure _ (fun _=>nt _) ?_;simp [vP,hX3];refine ax.pure _ (fun _=>chk _ _ hNS) ?_;simp [vP,hX3];refine ax.pure _ (fun _=>nt _) ?_;simp [vP,hX3];refine ax.pure _ (fun _=>chk0 _) ?_;simp [vP,hX3];refine ax.pure _ (fun _=>idc _ _ hNS) ?_;simp [vP,hX3];refine ax.pure _ (fun _=>spn _ _ hNS) ?_;simp [vP,hX3];exact hNB
def Be (t:aY)(p:ay):Bool:=decide (12<p.sources.length) || !decide (sZ t.net p=0)
def iB (t:aY)(l:List ay)(m:Nat):Bool:=decide (t.net.pts.length≤16∧t.net.lks.length≤40∧t.sys.length≤8∧l.length≤m∧bX t=0) && l.all fun p=> !Be t p
set_option maxHeartbeats 4000000 in
theorem Fh (t : aY) (l : List ay) (m : Nat) (hm : m ≤ 100) {x : AV} (hx : Rs 8 h x (l.map ae)) (hok : ∀ p ∈ l, p.Ok ∧ p.plate.length ≤ 1048576) :
    aa Tryz.prog gl 10 [.agg (aA t), x, .int .i64 m] h fun v h' => v = .bool (iB t l m) ∧ h' = h := by
  refine aa.data (by simp) (aa.body Tryz.f10 _ mixed Tryz.func10 rfl rfl (by simp [Tryz.ntmps10]) ?_)
  have fx := hx.fix
  have hxG := hx.append [.cells 3 [aA t]]
  have lx := hxG.len2
  simp only [aA] at lx
  by_cases c1 : 16 < t.net.pts.length
  · have e : iB t l m = false := by unfold iB; rw [decide_eq_false (by omega)]; rfl
    have c1' : (16 : Int) < t.net.pts.length := by omega
    rw [e]
    simp [av, fx, aA, c1, c1']
    refine ax.pure (.int .i64 0) (fun c => by cases c) ?_
    simp [av]
  have c1' : ¬ (16 : Int) < t.net.pts.length := by omega
  by_cases c2 : 40 < t.net.lks.length
  · have e : iB t l m = false := by unfold iB; rw [decide_eq_false (by omega)]; rfl
    have c2' : (40 : Int) < t.net.lks.length := by omega
    rw [e]
    simp [av, fx, aA, c1, c1', c2, c2']
    refine ax.pure (.int .i64 0) (fun c => by cases c) ?_
    simp [av]
  have c2' : ¬ (40 : Int) < t.net.lks.length := by omega
  by_cases c3 : 8 < t.sys.length
  · have e : iB t l m = false := by unfold iB; rw [decide_eq_false (by omega)]; rfl
    have c3' : (8 : Int) < t.sys.length := by omega
    rw [e]
    simp [av, fx, aA, c1, c1', c2, c2', c3, c3']
    refine ax.pure (.int .i64 0) (fun c => by cases c) ?_
    simp [av]
  have c3' : ¬ (8 : Int) < t.sys.length := by omega
  by_cases c4 : m < l.length
  · have e : iB t l m = false := by unfold iB; rw [decide_eq_false (by omega)]; rfl
    have c4' : (m : Int) < l.length := by omega
    rw [e]
    simp [av, fx, lx, aA, c1, c1', c2, c2', c3, c3', c4, c4']
    refine ax.pure (.int .i64 0) (fun c => by cases c) ?_
    simp [av]
  have c4' : ¬ (m : Int) < l.length := by omega
  have c4l : (l.length : Int) ≤ m := by omega
  have rc := fun H : af => zO (gl := gl) (h := H) t (by omega) (by omega) (by omega)
  simp [av, fx, lx, aA, c1, c1', c2, c2', c3, c3', c4, c4']
  refine ax.pure _ (fun _ => by simpa [aA] using rc _) ?_
  by_cases c5 : bX t = 0
  · have e : iB t l m = l.all fun p => !Be t p := by unfold iB; rw [decide_eq_true (by omega)]; rfl
    rw [e]
    simp [av, fx, aA, c5]
    refine aT.up mixed l.length (fun i fr H => fr 1 = x ∧ fr 3 = .ptr h.length 0 0 ∧ fr 7 = .int .i64 i ∧ (l.all fun p => !Be t p) = ((l.drop i).all fun p => !Be t p) ∧ h ++ [.cells 3 [aA t]] = H) 0 (by omega)
      ⟨by simp, by simp, by simp, by simp, by simp [aA]⟩ ?_
    rintro i fr H hi ⟨e1, e3, e7, hf, rfl⟩
    have hT3 := at3 (show (h ++ [.cells 3 [aA t]])[h.length]? = some (.cells 3 [aA t]) by simp)
    simp only [aA] at hT3
    rcases zN i l.length with hlt | hge
    · obtain ⟨p, hp, hp'⟩ := aJ hlt
      have ew := aB (i := i) (by omega)
      have hltI : (i : Int) < l.length := by omega
      rw [bq hp, List.all_cons] at hf
      have ra := Rs.ix Tryz.prog hxG i (by omega) (y := ae p) (by simp [hp])
      simp only [ae, aA] at ra
      obtain ⟨hpo, hpl⟩ := hok p (zF hp)
      by_cases d1 : 12 < p.sources.length
      · have d1' : (12 : Int) < p.sources.length := by omega
        have hb : Be t p = true := by unfold Be; simp [d1]
        rw [hb] at hf
        rw [hf]
        simp [av, aA, e1, e3, e7, hlt, hltI, fx, lx, ra, d1, d1']
        refine ⟨by decide, ?_⟩
        refine ax.pure (.int .i64 0) (fun c => by cases c) ?_
        simp [av]
      · have d1' : ¬ (12 : Int) < p.sources.length := by omega
        have d1l : (p.sources.length : Int) ≤ 12 := by omega
        have hck := fun H : af => JR (gl := gl) (h := H) t.net p hpo (by have : p.srcs.length = p.sources.length := (by unfold ay.srcs; simp); omega) (by omega) (by omega) (by omega)
        simp [av, aA, e1, e3, e7, hlt, hltI, fx, lx, ra, d1, d1', d1l]
        refine ⟨by decide, ?_⟩
        refine ax.pure _ (fun _ => by simpa [ae, bU] using hck _) ?_
        by_cases d2 : sZ t.net p = 0
        · have hb : Be t p = false := by unfold Be; simp [d1, d2]
          rw [hb] at hf
          simp [av, e1, e3, e7, d2, ew]
          exact ⟨i + 1, by omega, by omega, by omega, by simpa using hf⟩
        · have hb : Be t p = true := by unfold Be; simp [d2]
          rw [hb] at hf
          rw [hf]
          simp [av, e1, e3, e7, d2]
    · obtain rfl : i = l.length := by omega
      rw [List.drop_length] at hf
      rw [hf]
      simp [av, aA, e1, e3, e7, fx, lx]
  · have e : iB t l m = false := by unfold iB; rw [decide_eq_false (by omega)]; rfl
    rw [e]
    simp [av, c5]
structure Uk (t:aY)(l:List ay):Prop where
 z:bX t=0
 v: ∀p∈l,nu t p
 L:l.length<20→oG l
 T:A7 t
theorem Df {t:aY} {l:List ay} {m:Nat} (h:iB t l m=true)(hok: ∀p∈l,p.Ok):Uk t l∧l.length≤m:=by
 unfold iB at h;simp only [Bool.and_eq_true,decide_eq_true_eq,List.all_eq_true] at h;obtain⟨⟨h1,h2,h3,h4,h5⟩,h6⟩:=h;have hv:=gD h5;have hn:=fE t;rw [hv] at hn;have hp: ∀p∈l,p.sources.length≤12∧sZ t.net p=0:=fun p hp=>by
  have:=h6 p hp;unfold Be at this;simp at this;exact this
 refine⟨⟨h5,fun p hq=>(FC (hp p hq).2 h5).1,fun hl=>⟨fun p hq=>⟨hok p hq,by have:=(hp p hq).1;omega⟩,fun p hq=>by have:=(FC (hp p hq).2 h5).2.2.1;omega,hl⟩,⟨fun p hq=> ?_,by omega,by omega,by omega⟩⟩,h4⟩;have h7:=(jY hn p hq).1;unfold dW at h7;simp at h7;omega
def sN (E:List kD)(A:List ay)(k:Nat):List ay:=(A.take k).filter fun p=> !E.any fun x=>fo x p
theorem Ll {E:List kD} {A:List ay} {k:Nat} {p:ay} (h:A[k]? =some p):sN E A (k+1)=if (E.any fun x=>fo x p)=true then sN E A k else sN E A k++[p]:=by
 rw [sN,zM,h,List.filter_append];cases hb:E.any fun x=>fo x p <;> simp [sN,hb]
theorem Oo (E:List kD)(A:List ay)(k:Nat):(sN E A k).length≤A.length:=Nat.le_trans (List.length_filter_le _ _) (by rw [List.length_take];exact Nat.min_le_right _ _)
def Gl (E:List kD)(p:ay)(m:Nat):Bool:=(E.take m).any fun x=>fo x p
theorem ND {E:List kD} {p:ay} {m:Nat} {x:kD} (h:E[m]? =some x):Gl E p (m+1)=(Gl E p m || fo x p):=by
 rw [Gl,zM,h,List.any_append];simp [Gl]
theorem PT (E:List kD)(p:ay):Gl E p E.length=E.any fun x=>fo x p:=by rw [Gl,List.take_length]
set_option maxHeartbeats 8000000 in
theorem Ov (t:aY)(l:List ay)(hok: ∀p∈l,p.Ok∧p.plate.length≤1048576):aa Tryz.prog gl 8 [.agg (aA t),.ro (l.map ae)] h fun v h'=>v= .bool true:=by
 refine aa.body Tryz.f8 _ mixed Tryz.func8 rfl rfl (by simp [Tryz.ntmps8]) ?_;have hx: ∀H:af,Rs 8 H (.ro (l.map ae)) (l.map ae):=fun H=>Rs.ro (yD l);have rt:=fun H:af=>Fh (gl:=gl) (h:=H) t l 16 (by omega) (hx H) hok;have aw:=fun H:af=>Fg (gl:=gl) (h:=H);simp only [aA] at rt;simp [av,aA];refine ax.pure _ (fun _=>rt _) ?_
 cases hr:iB t l 16 with
 | false=>
  simp [av];refine ax.pure _ (fun _=>aw _) ?_;simp [av]
 | true=>
  obtain⟨hS,hl⟩:=Df hr (fun p hp=>(hok p hp).1);have hL:=hS.L (by omega);have hE1:=IE hS.z hS.v (by omega);have hb20:(og t l).length<20:=by omega
  have c1:=fun H:af=>yS (gl:=gl) (h:=H) t l (hx H) hL hS.T hb20;have hol:=j6 l;have hst: ∀z∈dK (allT t l),z.stops.length≤1000000:=fun z hz=>by
   have:=ML t l z ((dB _).1 hz);omega
  have eT:allT t l=jB t (aW l) (dI (aW l)) (dI (aW l)).length:=by rw [jB,List.take_length];rfl
  have hbl:=Ba t (aW l) (dI (aW l)).length (dI (aW l));have hvl:=yT (aW l);have hTl:(dK (allT t l)).length≤1000000:=by
   rw [Dq,eT];have h1:(dI (aW l)).length*(17*(aW l).length)≤20*(17*20):=Nat.mul_le_mul (by omega) (by omega);exact Nat.le_trans hbl.1 (by omega)
  have hEl:(iC (og t l)).length≤1000000:=by rw [iC,bz];omega
  have hgood: ∀x∈dK (allT t l),eP t x=0:=NC hS.z hS.v (by omega);have hfe: ∀v∈dI (aW l),qY t.net ((jM (aW l) v).filter fun p=> !(iC (og t l)).any fun x=>fo x p)=true:=fun v hv=>PS hS.z hS.v (by omega) hv;have hsok: ∀p∈aW l,p.Ok:=fun p hp=>(hok p (nG hp)).1;have fst:=fun H:af=>zP (gl:=gl) (h:=H) l (hx H) (fun p hp=>(hok p hp).1) (by omega);have vs:=fun H:af=>tJ (gl:=gl) (h:=H) (aW l) hsok (by omega);have oc:=fun (H:af) (v:Bytes)=>JS (gl:=gl) (h:=H) (aW l) v hsok (by omega);have hofl:=fun v:Bytes=>lv (aW l) v;have hofm: ∀v,∀p∈jM (aW l) v,p.Ok:=fun v p hp=>hsok p (jZ hp).1;have hTp:=hS.T.p;have hTl':=hS.T.l;have hTs:=hS.T.s;have hvz:=gD hS.z;clear eT hbl hb20 hE1;simp only [aA] at c1;generalize dK (allT t l)=T at*;generalize iC (og t l)=E at*;generalize aW l=S at*;generalize hV:dI S=V at*;obtain⟨q,hq⟩: ∃q,q=h.length:=⟨_,rfl⟩;obtain⟨B,hB⟩: ∃B,B=h++[.cells 3 [aA t]]:=⟨_,rfl⟩;have hT3:B[q]? =some (.cells 3 [aA t]):=by rw [hB,hq];simp
  simp [av];refine ax.pure _ (fun _=>c1 _) ?_;simp [av];refine aT.up mixed T.length (fun i fr H=>fr 1= .ro (l.map ae)∧fr 2= .ptr q 0 0∧fr 5= .ro (T.map aD)∧fr 6= .ro (E.map bf)∧fr 7= .int .i64 i∧B=H) 0 (by omega) ⟨by simp,by simp [hq],by simp,by simp,by simp,by simp [hB,aA]⟩ ?_;rintro i fr H hi ⟨e1,e2,e5,e6,e7,rfl⟩;have hT4:=at3 hT3;simp only [aA] at hT4;rcases zN i T.length with hlt | hge
  ·obtain⟨x,hxk,hxk'⟩:=aJ hlt;have hxm:=zF hxk;have ew:=aB (i:=i) (by omega);have hltI:(i:Int)<T.length:=by omega
   have ck:=fun G:af=>wD (gl:=gl) (h:=G) t x (hst x hxm) hTp hTl' hTs;rw [hgood x hxm] at ck;simp [av,aA,e1,e2,e5,e6,e7,hlt,hxk,hxk',hT4];refine⟨by decide,?_⟩;refine ax.pure _ (fun _=>by simpa [aD,aA] using ck _) ?_;simp [av,e1,e2,e5,e6,e7,ew];exact⟨i+1,by omega,by omega,by omega⟩
  ·obtain rfl:i=T.length:=by omega
   simp [av,e1,e2,e5,e6,e7];refine ax.pure _ (fun _=>fst _) ?_;simp [av,e1,e2,e5,e6,e7];refine ax.pure _ (fun _=>vs _) ?_;simp [av,e1,e2,e5,e6,e7];refine aT.up mixed V.length (fun i fr H=>fr 2= .ptr q 0 0∧fr 6= .ro (E.map bf)∧fr 8= .ro (S.map ae)∧fr 9= .ro (V.map aO)∧fr 10= .int .i64 i∧ ∃g,H=B++g) 0 (by omega)
    ⟨by simp [e2],by simp [e6],by simp,by simp,by simp,⟨[],by simp⟩⟩ ?_
   clear e1 e2 e5 e6 e7;rintro i fr H hi ⟨e2,e6,e8,e9,e10,hBH⟩;rcases zN i V.length with hlt | hge
   ·obtain⟨v,hv,hv'⟩:=aJ hlt;have hvm:=zF hv;have ew:=aB (i:=i) (by omega);have hltI:(i:Int)<V.length:=by omega
    have hA:=hfe v hvm;have hAl:=hofl v;have hAo:=hofm v;have ocv:=fun H:af=>oc H v;generalize jM S v=A at*;simp [av,e2,e6,e8,e9,e10,hlt,hv,hv',aO];refine ax.pure _ (fun _=>ocv _) ?_;simp [av,e2,e6,e8,e9,e10];refine aT.up mixed A.length (fun k fr H=>fr 2= .ptr q 0 0∧fr 6= .ro (E.map bf)∧fr 8= .ro (S.map ae)∧fr 9= .ro (V.map aO)∧fr 10= .int .i64 i∧fr 11= .ro (A.map ae)∧fr 13= .int .i64 k∧(∃g,H=B++g)∧ ∃z,fr 12=z∧Ls 8 B.length H z ((sN E A k).map ae)) 0 (by omega)
     ⟨by simp [e2],by simp [e6],by simp [e8],by simp [e9],by simp [e10],by simp,by simp,aI hBH _,_,rfl,?_⟩ ?_
    ·have:=bJ hBH;simpa [sN] using Ls.own (n:=8) (lo:=B.length) (b:=H.length) (h:=H++[.cells 8 []]) (es:=[]) (len:=0) (by simp) this rfl (by simp)
    clear e2 e6 e8 e9 e10 hBH;rintro k fr H hk ⟨e2,e6,e8,e9,e10,e11,e13,hBH,z,e12,hz⟩;have hzf:=hz.rs.fix;have hlB:=bJ hBH;rcases zN k A.length with hlk | hgk
    ·obtain⟨p,hp,hp'⟩:=aJ hlk;have ewk:=aB (i:=k) (by omega);have hlkI:(k:Int)<A.length:=by omega
     have hks:=Ll (E:=E) hp;have hkl:=Oo E A k;simp [av,e2,e6,e8,e9,e10,e11,e12,e13,hlk,hlkI,hzf];refine aT.up mixed E.length (fun m fr G=>fr 2= .ptr q 0 0∧fr 6= .ro (E.map bf)∧fr 8= .ro (S.map ae)∧fr 9= .ro (V.map aO)∧fr 10= .int .i64 i∧fr 11= .ro (A.map ae)∧fr 12=z∧fr 13= .int .i64 k∧fr 14= .bool (Gl E p m)∧fr 15= .int .i64 m∧H=G) 0 (by omega)
      ⟨by simp [e2],by simp [e6],by simp [e8],by simp [e9],by simp [e10],by simp [e11],by simp [e12],by simp [e13],by simp [Gl],by simp,rfl⟩ ?_
     clear e2 e6 e8 e9 e10 e11 e12 e13;rintro m fr G hm ⟨e2,e6,e8,e9,e10,e11,e12,e13,e14,e15,rfl⟩;rcases zN m E.length with hlm | hgm
     ·obtain⟨x,hxm,hxm'⟩:=aJ hlm;have ewm:=aB (i:=m) (by omega);have hlmI:(m:Int)<E.length:=by omega
      have hs:=ND (p:=p) hxm
      cases hb:Gl E p m with
      | true=>
       rw [hb,Bool.true_or] at hs;rw [hb] at e14;simp [av,e2,e6,e8,e9,e10,e11,e12,e13,e14,e15,hlm,hxm,hxm',hlk,hp,hp',bf,ae,hzf];refine⟨by decide,?_⟩;simp [av,e2,e6,e8,e9,e10,e11,e12,e13,e14,e15,hlm,hxm,hxm',hlk,hp,hp',bf,ae,hzf,ewm];exact⟨m+1,by omega,by omega,hs,by omega⟩
      | false=>
       rw [hb,Bool.false_or] at hs;rw [hb] at e14;by_cases d1:x.id=p.id
       ·by_cases d2:x.why=3
        ·have hi':fo x p=true:=by unfold fo;rw [decide_eq_true d1,decide_eq_true d2];rfl
         rw [hi'] at hs;simp [av,e2,e6,e8,e9,e10,e11,e12,e13,e14,e15,hlm,hxm,hxm',hlk,hp,hp',bf,ae,hzf,d1,d2];refine⟨by decide,?_⟩;simp [av,e2,e6,e8,e9,e10,e11,e12,e13,e14,e15,hzf,ewm];exact⟨m+1,by omega,by omega,hs,by omega⟩
        ·by_cases d3:x.why=9
         ·have hi':fo x p=true:=by unfold fo;rw [decide_eq_true d1,decide_eq_true d3,decide_eq_false d2];rfl
          rw [hi'] at hs;simp [av,e2,e6,e8,e9,e10,e11,e12,e13,e14,e15,hlm,hxm,hxm',hlk,hp,hp',bf,ae,hzf,d1,d2,d3];refine⟨by decide,?_⟩;simp [av,e2,e6,e8,e9,e10,e11,e12,e13,e14,e15,hzf,ewm];exact⟨m+1,by omega,by omega,hs,by omega⟩
         ·have hi':fo x p=false:=by unfold fo;rw [decide_eq_false d3,decide_eq_false d2];simp
          rw [hi'] at hs;simp [av,e2,e6,e8,e9,e10,e11,e12,e13,e14,e15,hlm,hxm,hxm',hlk,hp,hp',bf,ae,hzf,d1,d2,d3];refine⟨by decide,?_⟩;simp [av,e2,e6,e8,e9,e10,e11,e12,e13,e14,e15,hzf,ewm];exact⟨m+1,by omega,by omega,by rw [hs];simp [d2,d3],by omega⟩
       ·have hi':fo x p=false:=by unfold fo;rw [decide_eq_false d1];rfl
        rw [hi'] at hs;simp [av,e2,e6,e8,e9,e10,e11,e12,e13,e14,e15,hlm,hxm,hxm',hlk,hp,hp',bf,ae,hzf,d1];refine⟨by decide,?_⟩;simp [av,e2,e6,e8,e9,e10,e11,e12,e13,e14,e15,hzf,ewm];exact⟨m+1,by omega,by omega,by rw [hs];simp [d1],by omega⟩
     ·obtain rfl:m=E.length:=by omega
      rw [PT] at e14
      cases hb:E.any (fun x=>fo x p) with
      | true=>
       rw [hb] at e14;rw [if_pos hb] at hks;simp [av,e2,e6,e8,e9,e10,e11,e12,e13,e14,e15,hzf,ewk];exact⟨k+1,by omega,by omega,by omega,hBH,by rw [hks];exact hz⟩
      | false=>
       rw [hb] at e14;rw [if_neg (by rw [hb];simp)] at hks;simp [av,-aj,-au,-ah,-AV.solid,e2,e6,e8,e9,e10,e11,e12,e13,e14,e15,hlk,hp,hp',hzf];refine aN (lo:=B.length) (n:=8) (es:=(sN E A k).map ae) (ys:=[ae p]) (by simpa [ae] using hz.more _) (by simp;omega) (by simp [bE,ae]) (by simp;omega) ?_;intro s1 H1 hs1 hg1 hn1;have hs1f:=hs1.rs.fix;have hB1:=hg1.base B (by omega) (aI hBH _);simp [av,-aj,-au,-ah,-AV.solid,e2,e6,e8,e9,e10,e11,e13,e14,e15,hs1f,ewk];exact⟨k+1,by omega,by omega,by omega,hB1,by rw [hks];simpa using hs1⟩
    ·obtain rfl:k=A.length:=by omega
     obtain⟨g,hg⟩:=hBH;have hT5:=at3 (show H[q]? =some (.cells 3 [aA t]) by rw [hg];exact aP hT3 _);simp only [aA] at hT5;have hkA:sN E A A.length=A.filter fun p=> !E.any fun x=>fo x p:=by rw [sN,List.take_length]
     rw [hkA] at hz;have hkn:(A.filter fun p=> !E.any fun x=>fo x p).length≤A.length:=List.length_filter_le _ _;have fc:=fun (G:af) (y:AV) (hy:Rs 8 G y ((A.filter fun p=> !E.any fun x=>fo x p).map ae))=>Da (gl:=gl) (h:=G) t _ y hy (by omega) hTp hTl' hTs;rw [hvz,hA] at fc;simp [av,e2,e6,e8,e9,e10,e11,e12,e13,hzf,hT5];refine ax.pure _ (fun _=>by simpa [aA] using fc _ _ hz.rs) ?_;simp [av,e2,e6,e8,e9,e10,ew];exact⟨i+1,by omega,by omega,by omega,g,hg⟩
   ·obtain rfl:i=V.length:=by omega
    simp [av,e2,e6,e8,e9,e10];refine ax.pure _ (fun _=>aw _) ?_;simp [av]
end Go.Proofs.YtkpioblbeiaefaaGreat
end
section
namespace Go.Abs
open Go Go.ChangeShapes Go.WideShapes Go.RowKit
def Sh.okN (N:Nat):Sh→List AV→Prop
 | .sl e,es=> ∃l:List (List AV),es=[.ro l]∧l.length≤N∧ ∀x∈l,e.okN N x
 | .st f,es=>f.okN N es
 | .cons a r,es=> ∃x y,es=x++y∧x.length=a.n∧a.okN N x∧r.okN N y
 | .str,es=> ∃s:List UInt8,es=[.str s]∧s.length≤N
 | _,_=>True
structure pV {H:Type} (B:DataW H→Nat):Prop where
 st: ∀bytes,bytes.length≤B (.lit (.string bytes))
 sl: ∀elems spare,elems.length≤B (.slice elems spare)
 el: ∀elems spare d,d∈elems→B d≤B (.slice elems spare)
 ag: ∀parts d,d∈parts→B d≤B (.agg parts)
section
variable {H : Type} {enc : TypeId × Value → H} {P : Program} {w : World} {O : Nat → Prop} {J : List dL}
theorem Iq {t:TypeId} {fs:Array Field} {fuel:Nat} {cs:List Value} {x:DataW H×List MemPlace} (ht:P.underlying t=some (.struct fs))(h:DataW.trod enc P w 0 (fun _=>true) true fuel t cs=some x):
  ∃(xs:List (DataW H×List MemPlace)) (n:Nat),cs.length=P.cellsOf t∧(fs.toList.mapM fun f=>DataW.trod enc P w 0 (fun _=>true) true n f.type ((cs.drop f.offset).take (P.cellsOf f.type)))=some xs∧x.1= .agg (xs.map (·.1)):=by
 cases fuel with
 | zero=>simp [DataW.trod] at h
 | succ n=>
  unfold DataW.trod at h;rw [ht] at h;split at h <;> simp_all
  obtain⟨hl,xs,hp,hd⟩:=h;exact⟨xs,⟨n,hp⟩,by rw [←hd]⟩
theorem Kn (hO: ∀r,r<w.heap.size→ ¬O r)(sh:Sh):
  (∀(t:TypeId) (cs:List Value) (fuel:Nat) (x:DataW H×List MemPlace),sh.isTy=true→sh.is P t [] 0=true→DataW.trod enc P w 0 (fun _=>true) true fuel t cs=some x→
   ∃es,sh.ok es∧Gb J O w es cs∧es.length=sh.n∧ ∀B:DataW H→Nat,pV B→ ∀N,B x.1≤N→sh.okN N es)∧
  (∀(fs:List Field) (o:Nat) (cs:List Value) (n:Nat) (xs:List (DataW H×List MemPlace)),sh.is P 0 fs o=true→sh.isTy=false→
   (fs.mapM fun f=>DataW.trod enc P w 0 (fun _=>true) true n f.type ((cs.drop f.offset).take (P.cellsOf f.type)))=some xs→cs.length=o+sh.n→
   ∃es,sh.ok es∧Gb J O w es (cs.drop o)∧es.length=sh.n∧ ∀B:DataW H→Nat,pV B→ ∀N,(∀y∈xs,B y.1≤N)→sh.okN N es):=by
 induction sh with
 | bool=>
  refine⟨fun t cs fuel x _ hi h=> ?_,fun _ _ _ _ _ _ h=>by simp [Sh.isTy] at h⟩;simp only [Sh.is] at hi;split at hi <;> try simp at hi
  rename_i ht;obtain⟨b,rfl,_⟩:=DataW.trod_bool ht h;exact⟨_,⟨b,rfl⟩,.one (.bool b) rfl,rfl,fun _ _ _ _=>trivial⟩
 | int k=>
  refine⟨fun t cs fuel x _ hi h=> ?_,fun _ _ _ _ _ _ h=>by simp [Sh.isTy] at h⟩;simp only [Sh.is] at hi;split at hi <;> try simp at hi
  rename_i ht;subst hi;obtain⟨n,rfl,_,hw⟩:=DataW.trod_int ht h;exact⟨_,⟨n,rfl,hw⟩,.one (.int _ n) rfl,rfl,fun _ _ _ _=>trivial⟩
 | str=>
  refine⟨fun t cs fuel x _ hi h=> ?_,fun _ _ _ _ _ _ h=>by simp [Sh.isTy] at h⟩;simp only [Sh.is] at hi;split at hi <;> try simp at hi
  rename_i ht;obtain⟨s,rfl,hx,hw⟩:=DataW.trod_string ht h;refine⟨_,⟨s.data.toList,rfl,by rw [Array.length_toList];exact hw⟩,.one ?_ rfl,rfl,fun B hB N hN=>⟨s.data.toList,rfl,by rw [hx] at hN;exact Nat.le_trans (hB.st _) hN⟩⟩;exact aL.str _
 | sl e ih=>
  refine⟨fun t cs fuel x _ hi h=> ?_,fun _ _ _ _ _ _ h=>by simp [Sh.isTy] at h⟩;simp only [Sh.is] at hi;split at hi <;> try simp at hi
  rename_i u ht;obtain⟨⟨hi,hn⟩,hpos⟩:=hi;have hty:e.isTy=true:=by
   cases e <;> simp [Sh.isTy]
   ·simp [Sh.n] at hpos
   ·simp [Sh.is] at hi
  rcases DataW.trod_slice ht h with⟨rfl,_⟩ | ⟨a,len,cap,elems,rest,n,rfl,rfl,hxx,hb,hl,hc,hlen,he,_,_⟩
  ·exact⟨_,⟨[],rfl,Nat.zero_le _,by simp⟩,.one .roNil rfl,rfl,fun _ _ _ _=>⟨[],rfl,Nat.zero_le _,by simp⟩⟩
  ·have key: ∀i:Fin len,∃es:List AV,e.ok es∧ ∃cs,w.cells? 0 (a.add (i*P.cellsOf u)) (P.cellsOf u)=some cs∧Gb J O w es cs∧es.length=e.n∧ ∀B:DataW H→Nat,pV B→ ∀N,B (elems[i.1]'(by rw [hlen];exact i.2)).1≤N→e.okN N es:=by
    intro i;have h1:=he i i.2;rw [zB (by rw [hlen];exact i.2)] at h1;obtain⟨cs,hc1,hc2⟩:=Option.bind_eq_some_iff.1 h1;obtain⟨es,p,q,r,s⟩:=ih.1 _ _ _ _ hty hi hc2;exact⟨es,p,cs,hc1,q,r,s⟩
   obtain⟨g,hg⟩:=Classical.axiomOfChoice key
   let es:=(List.finRange len).map g
   have hes:es.length=len:=by simp [es]
   have hget: ∀(i:Nat) (x:List AV),es[i]? =some x→ ∃hi:i<len,x=g ⟨i,hi⟩:=by
    intro i x hx;have hi:i<len:=by
     rcases zN i len with h | h
     ·exact h
     ·simp [List.getElem?_eq_none (by omega:es.length≤i)] at hx
    refine⟨hi,?_⟩;simp [es,hi] at hx;exact hx.symm
   have hcell: ∀(i:Nat) (x:List AV) (c:Nat) (y:AV),es[i]? =some x→x[c]? =some y→ ∃v,w.cell? (a.add (i*e.n+c))=some v∧aL J O w y v∧v.oneCell'=true:=by
    intro i x c y hx hy;obtain⟨hi,rfl⟩:=hget i x hx;obtain⟨_,cs,hcs,⟨q1,q2⟩,r,_⟩:=hg ⟨i,hi⟩;obtain⟨_,s1,s2⟩:=World.cells?_some hcs;have hcl:c<(g ⟨i,hi⟩).length:=by
     rcases zN c (g ⟨i,hi⟩).length with h | h
     ·exact h
     ·simp [List.getElem?_eq_none h] at hy
    obtain⟨v,hv⟩: ∃v,cs[c]? =some v:=⟨cs[c]'(by omega),zB (by omega)⟩;have h3:=s2 c (by omega);rw [hv,←hn] at h3;refine⟨v,?_,q2 c y v hy hv⟩;rw [←h3,show (a.add (i*e.n)).add c=a.add (i*e.n+c) from add_add' _ _ _]
   refine⟨[.ro es],⟨es,rfl,by omega,fun x hx=> ?_⟩,.one ?_ rfl,rfl,fun B hB N hN=>⟨es,rfl,?_,fun y hy=> ?_⟩⟩
   ·obtain⟨i,hi⟩:=List.getElem?_of_mem hx;obtain⟨hi',rfl⟩:=hget i x hi;exact (hg ⟨i,hi'⟩).1
   ·rw [←hes];refine aL.ro es a e.n cap (fun i c=>(w.cell? (a.add (i*e.n+c))).getD undef) (by omega) hpos ?_ ?_ ?_ ?_ ?_
    ·by_cases h0:es=[]
     ·exact .inl h0
     ·right
      have h0':0<len:=by
       rcases Nat.eq_zero_or_pos len with h | h
       ·exact absurd (List.length_eq_zero_iff.1 (hes.trans h)) h0
       ·exact h
      obtain⟨_,cs,hcs,_⟩:=hg ⟨0,h0'⟩;have:=World.cells?_block hcs (by omega);have hbl:a.block<w.heap.size:=by simpa [add_block] using this
      exact⟨hbl,hO _ hbl⟩
    ·intro i x hx;obtain⟨hi,rfl⟩:=hget i x hx;exact (hg ⟨i,hi⟩).2.choose_spec.2.2.1
    ·intro i x c y hx hy;obtain⟨v,hv,_⟩:=hcell i x c y hx hy;simp [hv]
    ·intro i x c y hx hy;obtain⟨v,hv,_,h1⟩:=hcell i x c y hx hy;simp [hv,h1]
    ·intro i x c y hx hy;obtain⟨v,hv,h1,_⟩:=hcell i x c y hx hy;simp [hv,h1]
   ·have:=hB.sl (elems.map (·.1)) (rest.map (·.1));simp only [List.length_map] at this;rw [hxx] at hN;simp only at hN;omega
   ·rw [hxx] at hN;obtain⟨i,hi⟩:=List.getElem?_of_mem hy;obtain⟨hi',rfl⟩:=hget i y hi;refine (hg ⟨i,hi'⟩).2.choose_spec.2.2.2 B hB N (Nat.le_trans (hB.el _ _ _ ?_) hN);exact List.mem_map.2 ⟨_,List.getElem_mem _,rfl⟩
 | st f ih=>
  refine⟨fun t cs fuel x _ hi h=> ?_,fun _ _ _ _ _ _ h=>by simp [Sh.isTy] at h⟩;simp only [Sh.is] at hi;split at hi <;> try simp at hi
  rename_i fs ht;obtain⟨⟨hty,hi⟩,hn⟩:=hi;obtain⟨xs,n,hl,hm,hx⟩:=Iq ht h;obtain⟨es,p,q,r,s⟩:=ih.2 fs.toList 0 cs n xs hi hty hm (by omega);refine⟨es,p,by simpa using q,r,fun B hB N hN=>s B hB N fun y hy=>Nat.le_trans (hB.ag (xs.map (·.1)) _ (List.mem_map.2 ⟨y,hy,rfl⟩)) (by rw [←hx];exact hN)⟩
 | none=>
  refine⟨fun _ _ _ _ h=>by simp [Sh.isTy] at h,fun fs o cs n xs hi _ hm hl=> ?_⟩;refine⟨[],rfl,⟨?_,by simp⟩,rfl,fun _ _ _ _=>trivial⟩;simp [Sh.n] at hl;simp [hl]
 | cons a r iha ihr=>
  refine⟨fun _ _ _ _ h=>by simp [Sh.isTy] at h,fun fs o cs n xs hi _ hm hl=> ?_⟩
  cases fs with
  | nil=>simp [Sh.is] at hi
  | cons f fs'=>
   simp only [Sh.is,Bool.and_eq_true,decide_eq_true_eq,Bool.not_eq_true'] at hi;obtain⟨⟨⟨⟨⟨ho,ha⟩,hn⟩,hr⟩,hta⟩,htr⟩:=hi;obtain⟨y,ys,hy,hys,rfl⟩:=Ck hm;simp only [Sh.n] at hl;obtain⟨e1,p1,q1,r1,s1⟩:=iha.1 _ _ _ _ hta ha hy;obtain⟨e2,p2,q2,r2,s2⟩:=ihr.2 fs' (o+a.n) cs n ys hr htr hys (by omega);refine⟨e1++e2,⟨e1,e2,rfl,p1,p2⟩,?_,by simp [Sh.n,r1,r2],fun B hB N hN=>⟨e1,e2,rfl,r1,s1 B hB N (hN y (by simp)),s2 B hB N fun z hz=>hN z (by simp [hz])⟩⟩;have:=q1.append q2;rw [ho,←hn,←List.drop_drop,List.take_append_drop] at this;exact this
def Cw (N:Nat)(sh:Sh)(x:AV):Prop:=match sh with | .st f=> ∃es,x= .agg es∧f.okN N es | sh=>sh.okN N [x]
def mM (N:Nat):List Sh→List AV→Prop
 | [],_=>True
 | sh::shs,xs=> ∃x r,xs=x::r∧Cw N sh x∧mM N shs r
theorem Pz (hO: ∀r,r<w.heap.size→ ¬O r) {r:Reach} {b0:Nat} (sh:Sh) {t:TypeId} {v:Value} {d:DataW H} {ps:List MemPlace} (hty:sh.isTy=true)(hi:sh.is P t [] 0=true)
  (hval:Value.okWide P w r b0 t v) (hd:DataW.Trod enc P w 0 (fun _=>true) true t v d ps): ∃x,Cv sh x∧aL J O w x v∧ ∀B:DataW H→Nat,pV B→ ∀N,B d≤N→Cw N sh x:=by
 obtain⟨fuel,hf⟩:=hd;obtain⟨es,p,q,hn,hs⟩:=(Kn (J:=J) hO sh).1 _ _ _ _ hty hi hf;have one:sh.n=1→v.oneCell'=true→sh.ok es→ ∃x,sh.ok [x]∧aL J O w x v∧ ∀B:DataW H→Nat,pV B→ ∀N,B d≤N→sh.okN N [x]:=by
  intro h1 h2 h3;rw [h1] at hn;obtain⟨x,rfl⟩:=List.length_eq_one_iff.1 hn;have hc:v.cells.toList=[v]:=by cases v <;> simp [Value.oneCell'] at h2 <;> rfl
  rw [hc] at q;exact⟨x,h3,(q.2 0 x v rfl rfl).1,hs⟩
 cases sh with
 | bool=>
  simp only [Sh.is] at hi;split at hi <;> try simp at hi
  rename_i ht;refine one rfl ?_ p;cases v <;> simp [Value.okWide,Cell.okWide,Cell.ok,ht] at hval <;> rfl
 | int k=>
  simp only [Sh.is] at hi;split at hi <;> try simp at hi
  rename_i ht;refine one rfl ?_ p;cases v <;> simp [Value.okWide,Cell.okWide,Cell.ok,ht] at hval <;> rfl
 | str=>
  simp only [Sh.is] at hi;split at hi <;> try simp at hi
  rename_i ht;refine one rfl ?_ p;cases v <;> simp [Value.okWide,Cell.okWide,Cell.ok,ht] at hval <;> rfl
 | sl e=>
  simp only [Sh.is] at hi;split at hi <;> try simp at hi
  rename_i u ht;exact one rfl (okWide_slice ht hval) p
 | st f=>
  simp only [Sh.is] at hi;split at hi <;> try simp at hi
  rename_i fs ht;simp only [Value.okWide,ht] at hval;obtain⟨cs,rfl,_,_⟩:=hval;refine⟨.agg es,⟨es,rfl,p⟩,?_,fun B hB N hN=>⟨es,rfl,hs B hB N hN⟩⟩;have:(Value.agg cs)= .agg cs.toList.toArray:=by simp
  rw [this];refine .agg es cs.toList q.1 ?_ (fun i x v hx hv=>(q.2 i x v hx hv).1);intro v hv;obtain⟨i,hi⟩:=List.getElem?_of_mem hv;have hlt:i<es.length:=by
   rcases zN i es.length with h | h
   ·exact h
   ·rw [q.1] at h;simp [Value.cells] at h;simp [Nat.not_lt.2 h] at hi
  exact (q.2 i _ v (zB hlt) hi).2
 | none=>simp [Sh.isTy] at hty
 | cons a b=>simp [Sh.isTy] at hty
theorem DV (hO: ∀r,r<w.heap.size→ ¬O r) {r:Reach} {b0:Nat}: ∀(shs:List Sh) {ts:List TypeId} {vs:List Value} {ds:List (DataW H)} {ps:List MemPlace},yx P shs ts=true→
  (∀(j:Nat) t v,ts[j]? =some t→vs[j]? =some v→Value.okWide P w r b0 t v)→DataW.TrodAll enc P w 0 (fun _=>true) true ts vs ds ps→
  ∃xs,Cx shs xs∧bL J O w xs vs∧ ∀B:DataW H→Nat,pV B→ ∀N,(∀d∈ds,B d≤N)→mM N shs xs
 | [],[],vs,ds,ps,_,_,h=>by
  obtain⟨rfl,rfl,rfl⟩:=trodAll_nil h;exact⟨[],rfl,.nil,fun _ _ _ _=>trivial⟩
 | sh::shs,t::ts,vs,ds,ps,hi,hval,h=>by
  obtain⟨v,vs1,d,ds1,a,b,rfl,rfl,rfl,h1,h2⟩:=trodAll_cons h;simp only [yx,Bool.and_eq_true] at hi;obtain⟨x,p,q,s⟩:=Pz (J:=J) hO sh hi.1.1 hi.1.2 (hval 0 t v rfl rfl) h1;obtain⟨xs,p',q',s'⟩:=DV hO shs hi.2 (fun j t v ht hv=>hval (j+1) t v (by simpa using ht) (by simpa using hv)) h2;exact⟨x::xs,⟨x,xs,rfl,p,p'⟩,.cons q q',fun B hB N hN=>⟨x,xs,rfl,s B hB N (hN _ (by simp)),s' B hB N fun d hd=>hN d (by simp [hd])⟩⟩
 | [],_::_,_,_,_,hi,_,_=>by simp [yx] at hi
 | _::_,[],_,_,_,hi,_,_=>by simp [yx] at hi
end
section
variable {H : Type} {enc : TypeId × Value → H} {P : Program} {W W' : World}
theorem uU {gl:aM} {f:FuncId} {fn:Func} {s:ChangeSpec} {apart fresh handsOn again:Bool} {tb:TypeId} (shs:List Sh)
  (K:Kids P (· <P.types.size)) (hz: ∀t e,t<P.types.size→P.underlying t=some (.slice e)→0<P.cellsOf e)
  (hsh:yx P shs fn.params.toList=true) (hT: ∀t∈fn.params.toList,t<P.types.size) (hr:fn.resultTypes= #[tb]) (hb:P.underlying tb=some .bool)
  (hvars:s.vars=[]) (hfn: ∀ds:List (DataW H),ds.length=fn.params.toList.length→s.fn H ds= { results:=[.lit (.bool true)],args:=ds })
  (hgl: ∀g cs,gl g=some cs→aL [] (Own [] []) W (.rop [cs] 0 0) (.pointer (some ⟨g,0,none⟩)))
  (base:Nat) (args:Array Value) (ds gs:List (DataW H)) (before:List MemPlace)
  (hlaw: ∀xs,Cx shs xs→(∀B:DataW H→Nat,pV B→ ∀N,(∀d∈ds,B d≤N)→mM N shs xs)→aa P gl f xs [] fun x h'=>x= .bool true)
  (hval: ∀(j:Nat) t v,fn.params[j]? =some t→args[j]? =some v→Value.okWide P W .any base t v)
  (hW:DataW.Whole enc P fn.params.toList s.vars apart W args.toList ds gs before):
  Calls P f args W fun e W'=> ∃v,e= .returned v∧s.post enc P fn apart fresh handsOn again W args v W':=by
 have hW0:=hW;obtain⟨p,q,hA,hV,rfl,hfz,hnd⟩:=hW;have hO: ∀r,r<W.heap.size→ ¬Own [] [] r:=by rintro r _ ⟨b,k,o,h,_⟩;simp at h
 rw [hvars] at hV;obtain⟨rfl,rfl⟩:=trodVars_none hV;obtain⟨xs,hx,hv,hN⟩:=DV (J:=[]) hO shs hsh (fun j t v ht hv=>hval j t v (by simpa using ht) (by simpa using hv)) hA;have hh:bR gl [] [] W:=⟨rfl,by intro b b' k;simp,by intro b k;simp,by intro b k;simp,hgl⟩;have hc:=(hlaw xs hx hN).2 [] W args.toList hh hv;simp only [Array.toArray_toList] at hc;refine Calls.mono' hc ?_;rintro e W' ⟨x,v,J',h',rfl,_,hxv,he,rfl⟩;obtain rfl:v= .bool true:=by cases hxv;rfl
 refine⟨_,rfl,?_⟩;have hold: ∀r,r<W.heap.size→W'.heap[r]? =W.heap[r]? :=fun r hr=>(he.keep r hr (hO r hr)).1;have hlen:=(trodAll_length hA).2;have hfn':=hfn (ds++[]) (by simpa using hlen);rw [List.append_nil] at hfn' hW0;have hlt: ∀p'∈p,p'.block<W.heap.size:=fun p' hp=>DataW.TrodAll.lt hA p' hp;have hkept: ∀may,W.keptBut W' may:=by
  intro may;refine⟨he.os,he.output,fun i hi=> ?_⟩;rw [hold i hi]
  cases W.heap[i]? with
  | none=>rfl
  | some o=>cases o <;> simp
 have hfz': ∀p'∈p,∀b off,p'= .cell b off→W'.frozen? ⟨b,off,none⟩=W.frozen? ⟨b,off,none⟩:=by
  rintro p' hp b off rfl;have:=hold b (hlt _ hp);simp [World.frozen?,this]
 have hagain: ∀sp:Nat→Bool,(∀p'∈p,sp p'.block=true)→DataW.TrodAll enc P W' 0 sp true fn.params.toList args.toList ds p:=fun sp hsp=>LM K hz hold hT hA hsp;have hres: ∀(b:Nat) (sp:Nat→Bool) (hd:Bool),DataW.TrodAll enc P W' b sp hd fn.resultTypes.toList ((Value.bool true).resultList fn.resultTypes.size) [.lit (.bool true)] []:=by
  intro b sp hd;rw [hr];exact trodAll_cons_mk (shut_bool hb _) trodAll_mk0
 refine⟨ds,[],p,[],p,[],hW0,?_,?_,?_,?_,fun _=> ?_⟩
 ·rw [List.append_nil,hfn'];exact hres _ _ _
 ·rw [List.append_nil,hfn'];exact hagain _ fun p' hp=>by simpa using hlt p' hp
 ·rw [List.append_nil,hfn',hvars];rfl
 ·exact hkept _
 ·refine⟨?_,[.lit (.bool true)]++ds,[],[]++p++[],⟨[]++p,[],trodAll_append (hagain (fun _=>true) fun _ _=>rfl) (hres 0 (fun _=>true) true),by rw [hvars];rfl,rfl,?_,?_⟩,?_⟩
  ·exact ok_one hr rfl (okWide_bool_mk hb _)
  ·intro b off hp;have hp':MemPlace.cell b off∈p:=by simpa using hp
   rw [hfz' _ hp' b off rfl];exact hfz b off (by simpa using hp')
  ·intro ha;simpa using hnd ha
  ·intro p' hp _;simpa using hp
end
theorem sV {N:Nat} {a r:Sh} {v:AV} {vs:List AV} (h:(Sh.cons a r).okN N (v::vs))(ha:a.n=1):a.okN N [v]∧r.okN N vs:=by
 obtain⟨x,y,e,hx,h1,h2⟩:=h;rw [ha] at hx;obtain⟨z,rfl⟩:=List.length_eq_one_iff.1 hx;simp at e;obtain⟨rfl,rfl⟩:=e;exact⟨h1,h2⟩
theorem Vf {N:Nat} {e:Sh} {l:List (List AV)} (h:(Sh.sl e).okN N [.ro l]):l.length≤N∧ ∀x∈l,e.okN N x:=by
 obtain⟨m,e1,h1,h2⟩:=h;simp at e1;subst e1;exact⟨h1,h2⟩
theorem SS {N:Nat} {s:List UInt8} (h:Sh.str.okN N [.str s]):s.length≤N:=by
 obtain⟨m,e1,h1⟩:=h;simp at e1;subst e1;exact h1
theorem He {N:Nat} {sh:Sh} {shs:List Sh} {x:AV} {xs:List AV} (h:mM N (sh::shs) (x::xs)):Cw N sh x:=by
 obtain⟨a,b,e,h1,_⟩:=h;injection e with e1 _;subst e1;exact h1
theorem Hf {N:Nat} {sh:Sh} {shs:List Sh} {x:AV} {xs:List AV} (h:mM N (sh::shs) (x::xs)):mM N shs xs:=by
 obtain⟨a,b,e,_,h1⟩:=h;injection e with _ e1;subst e1;exact h1
end Go.Abs
end
section
namespace Go.Toll
open Go Go.Abs
theorem zt {N:Nat} {a b:Sh} {shs:List Sh} {x y:AV} {xs:List AV} (h:mM N (a::b::shs) (x::y::xs)):Cw N b y:=He (Hf h)
theorem EI {x:AV} (h:Cv (.sl Dl) x)(hN:Cw 1048576 (.sl Dl) x): ∃l:List ay,x= .ro (l.map ae)∧ ∀p∈l,p.Ok∧p.plate.length≤1048576:=by
 obtain⟨l,rfl,_,hl⟩:=Ws (enc:=ae) (Q:=ay.Ok) h fun _=>QM;obtain⟨n1,n2⟩:=Vf (l:=l.map ae) hN;refine⟨l,rfl,fun p hp=>⟨hl p hp,?_⟩⟩;have h1:=n2 (ae p) (List.mem_map.2 ⟨p,hp,rfl⟩);have h2:(Sh.cons .str (.cons .str (.cons Nr (.cons .str (.cons .str (.cons Nr (.cons Nr (.cons (.sl J7) .none)))))))).okN 1048576 (ae p):=h1;have q1:=(sV h2 rfl).2;have q2:=(sV q1 rfl).2;have q3:=(sV q2 rfl).2;have q4:=(sV q3 rfl).2;exact SS (sV q4 rfl).1
end Go.Toll
end
