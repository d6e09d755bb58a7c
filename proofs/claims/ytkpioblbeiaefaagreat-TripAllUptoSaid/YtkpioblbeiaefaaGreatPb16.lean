/- Part 16 of the lemmas below the statements of this seat: R21S. -/
import Derived.Test.YtkpioblbeiaefaaGreatPb14
set_option linter.unusedSectionVars false
set_option linter.unusedVariables false
set_option linter.unusedSimpArgs false
set_option linter.unnecessarySimpa false
set_option maxRecDepth 100000
namespace Go.Proofs.YtkpioblbeiaefaaGreat
open Go Go.Abs Go.Toll
variable {gl : aR} {h : ak}
set_option maxHeartbeats 8000000 in
theorem yV (l:List dB)(X:dB) {x:AV} (hx:Rs 5 h x (l.map aH))(hs:qz (fun a b=>decide (jS a b<0)) l)(hne: ∀z∈l,z.stops≠[])(hX:X.stops≠[])(hn:l.length≤1000000):
  af Tryz.prog gl 44 [x,.agg (aH X)] h fun v h'=>v= .ro ((Hm X l).map aH)∧h'=h:=by
 refine af.fresh' (af.body Tryz.f44 _ mixed Tryz.func44 rfl rfl (by simp [Tryz.ntmps44]) ?_);have fx:=hx.fix;have lx:=(hx.append [.cells 5 [aH X]]).len2;simp [fx,aH];obtain⟨G,hGd⟩: ∃G:ak,h++[.cells 5 [aH X]]=G:=⟨_,rfl⟩;have hcell: ∀H:ak,(∃g,H=G++g)→H[h.length]? =some (.cells 5 [aH X]):=by rintro H ⟨g,rfl⟩;rw [←hGd];simp
 have hkeep: ∀H:ak,(∃g,H=G++g)→Rs 5 H x (l.map aH):=by rintro H ⟨g,rfl⟩;rw [←hGd,zK];exact hx.append _
 rw [hGd] at lx;have hGd':=hGd;simp only [aH] at hGd';rw [hGd'];obtain⟨A,hA,hA'⟩:=aN (l:=X.stops) (i:=0) (List.length_pos_iff.2 hX);have hAp:0<X.stops.length:=List.length_pos_iff.2 hX;have tA:iQ X=A.time:=by obtain⟨a,r,e⟩:=List.exists_cons_of_ne_nil hX;rw [iQ,e];rw [e] at hA;cases hA;rfl
 refine aW.up mixed l.length (fun i fr H=>fr 0=x∧fr 3= .ptr h.length 0 0∧fr 5= .int .i64 i∧(∀j y,j<i→l[j]? =some y→decide (jS X y<0)=false)∧G=H) 0 (by omega)
  ⟨by simp,by simp,by simp,by omega,rfl⟩ ?_
 rintro i fr H hi ⟨e0,e3,e5,hk1,rfl⟩;have hG: ∃g,G=G++g:=⟨[],by simp⟩;have hxG:=hkeep G hG;have ew:=aB (i:=i) (by omega);have hT0:=at3 (hcell G hG);simp only [aH] at hT0;have hsl:eD (l.map aH).length none (some (i:Int)):=by simp [eD,tQ,eY] <;> omega
 have hsr:eD (l.map aH).length (some (i:Int)) none:=by simp [eD,tQ,eY] <;> omega
 have hxH:=(hkeep G hG).append [.cells 5 []];have q1:=hxH.cut Tryz.prog (by omega) none (some (i:Int)) hsl;have q1f:=q1.1.fix;have q1o:=q1.2 41 (by decide) (by decide);have sl1:Rs 5 (G++[.cells 5 []]) (aS x none (some (i:Int))) ((l.take i).map aH):=by rw [List.map_take];simpa [eY,-aS,-List.map_take] using q1.1
 by_cases hlt:i<l.length
 ·obtain⟨y,hy,hy'⟩:=aN hlt;have hltI:(i:Int)<l.length:=by omega
  have ra:=Rs.ix Tryz.prog hxG i (by omega) (y:=aH y) (by simp [hy]);simp only [aH] at ra;have hyn:=hne y (zF hy);obtain⟨B,hb,hb'⟩:=aN (l:=y.stops) (i:=0) (List.length_pos_iff.2 hyn);have hbp:0<y.stops.length:=List.length_pos_iff.2 hyn;have tB:iQ y=B.time:=by obtain⟨a,r,e⟩:=List.exists_cons_of_ne_nil hyn;rw [iQ,e];rw [e] at hb;cases hb;rfl
  have go:=Vw X y;rw [tA,tB] at go;by_cases c1:B.time<A.time
  ·simp only [c1,decide_true,Bool.true_or,Bool.not_true] at go;simp [au,bK,aa,-aS,-aU,e0,e3,e5,hlt,hltI,fx,lx,ra,hT0,hA,hA',hAp,hb,hb',hbp,ew,c1];refine⟨by decide,?_⟩;refine⟨i+1,by omega,by omega,by omega,fun j y' hj hy2=> ?_⟩;rcases zN j i with q | q
   ·simpa using hk1 j y' q hy2
   ·obtain rfl:j=i:=by omega
    rw [hy] at hy2;cases hy2;simpa using go
  have goOn: ∀(hh:decide (jS X y<0)=false) (j:Nat) (y':dB),j<i+1→l[j]? =some y'→decide (jS X y'<0)=false:=fun hh j y' hj hy2=>by
   rcases zN j i with q | q
   ·exact hk1 j y' q hy2
   ·obtain rfl:j=i:=by omega
    rw [hy] at hy2;cases hy2;exact hh
  by_cases c2:B.time=A.time
  ·by_cases c4:y.id=X.id
   ·have hs0:Op.bytesLess X.id X.id=false:=by rw [←gD,decide_eq_false_iff_not,(ma _ _).2 rfl];omega
    have hc:=goOn (by rw [go,c4,hs0];simp [c2]);simp [au,bK,aa,-aS,-aU,e0,e3,e5,hlt,hltI,fx,lx,ra,hT0,hA,hA',hAp,hb,hb',hbp,ew,c1,c2,c4];refine⟨by decide,?_⟩;exact⟨i+1,by omega,by omega,by omega,by simpa using hc⟩
   by_cases c3:Op.bytesLess y.id X.id=true
   ·have hc:=goOn (by rw [go,(CZ c3).1];simp [c2]);simp [au,bK,aa,-aS,-aU,e0,e3,e5,hlt,hltI,fx,lx,ra,hT0,hA,hA',hAp,hb,hb',hbp,ew,c1,c2,c3];refine⟨by decide,?_⟩;exact⟨i+1,by omega,by omega,by omega,by simpa using hc⟩
   ·have c3':Op.bytesLess y.id X.id=false:=by simpa using c3
    have c5:=GR c3' c4;have hk2: ∀y',l[i]? =some y'→decide (jS X y'<0)=true:=fun y' hy2=>by rw [hy] at hy2;cases hy2;rw [go,c5];simp [c2]
    simp [au,bK,-ae,-ai,-ah,-AV.solid,-aS,-aU,e0,e3,e5,hlt,hltI,ra,hT0,aa,hA,hA',hAp,hb,hb',hbp,ew,c1,c2,c3',c4,fx,lx,q1f,q1o];refine⟨by decide,?_⟩;refine aG (lo:=G.length) (n:=5) (es:=[]) (ys:=(l.take i).map aH) (Ls.own (by simp) (by omega) rfl (by simp)) (by simp) (bL sl1 (by simp) (by simp) (by simp)) (by simp <;> omega) ?_;intro s1 H1 hs1 hg1 hn1;have hs1f:=hs1.rs.fix;have hB1:=hg1.base G (by omega) ⟨_,rfl⟩;have hT1:=at3 (hcell H1 hB1);simp only [aH] at hT1;simp [au,bK,-ae,-ai,-ah,-AV.solid,-aS,-aU,-List.map_append,e0,e3,e5,hs1f,fx,lx,hT1];refine aG (lo:=G.length) (n:=5) (es:=(l.take i).map aH) (ys:=[aH X]) (by simpa using hs1.more _) (by have:=aV hB1;simp <;> omega) (by simp [bu,aH]) (by simp <;> omega) ?_;intro s2 H2 hs2 hg2 hn2;have hs2f:=hs2.rs.fix;have hB2:=hg2.base G (by omega) (aF hB1 _);have hx2:Rs 5 H2 x (l.map aH):=hkeep H2 hB2;have q2:=hx2.cut Tryz.prog (by omega) (some (i:Int)) none hsr;have q2o:=q2.2 41 (by decide) (by decide);have sl2:Rs 5 H2 (aS x (some (i:Int)) none) ((l.drop i).map aH):=by
     have e:(l.map aH).take l.length=l.map aH:=zG (by simp);rw [List.map_drop];simpa [eY,-aS,e,-List.map_drop] using q2.1
    have sl2f:=sl2.fix;have lx2:=hx2.len2;simp [au,bK,-ae,-ai,-ah,-AV.solid,-aS,-aU,-List.map_append,e0,e3,e5,fx,hs2f,sl2f,q2o,lx2];refine aG (lo:=G.length) (n:=5) (es:=(l.take i).map aH++[aH X]) (ys:=(l.drop i).map aH) hs2 (by have:=aV hB2;omega) (bL sl2 (by simp) (by simp) (by simp)) (by simp <;> omega) ?_;intro s3 H3 hs3 hg3 hn3;have hB3:=hg3.base G (by omega) hB2;have hs3f:=hs3.rs.fix;simp [au,bK,-ae,-ai,-ah,-AV.solid,-aS,-aU,-List.map_append,e0,e3,e5,hs3f];obtain⟨g3,hg3⟩:=hB3;refine⟨⟨_,by rw [hg3,←hGd,zK]⟩,?_⟩;have e:Hm X l=l.take i++X::l.drop i:=pR lS.swo hs hi hk1 hk2;rw [e];have hl3:Ls 5 G.length H3 s3 ((l.take i++X::l.drop i).map aH):=by simpa using hs3
    exact hl3.frz (by rw [←hGd];simp) (l9 _)
  ·have hk2: ∀y',l[i]? =some y'→decide (jS X y'<0)=true:=fun y' hy2=>by rw [hy] at hy2;cases hy2;simpa [c1,c2] using go
   simp [au,bK,-ae,-ai,-ah,-AV.solid,-aS,-aU,e0,e3,e5,hlt,hltI,ra,hT0,aa,hA,hA',hAp,hb,hb',hbp,ew,c1,c2,fx,lx,q1f,q1o];refine⟨by decide,?_⟩;refine aG (lo:=G.length) (n:=5) (es:=[]) (ys:=(l.take i).map aH) (Ls.own (by simp) (by omega) rfl (by simp)) (by simp) (bL sl1 (by simp) (by simp) (by simp)) (by simp <;> omega) ?_;intro s1 H1 hs1 hg1 hn1;have hs1f:=hs1.rs.fix;have hB1:=hg1.base G (by omega) ⟨_,rfl⟩;have hT1:=at3 (hcell H1 hB1);simp only [aH] at hT1;simp [au,bK,-ae,-ai,-ah,-AV.solid,-aS,-aU,-List.map_append,e0,e3,e5,hs1f,fx,lx,hT1];refine aG (lo:=G.length) (n:=5) (es:=(l.take i).map aH) (ys:=[aH X]) (by simpa using hs1.more _) (by have:=aV hB1;simp <;> omega) (by simp [bu,aH]) (by simp <;> omega) ?_;intro s2 H2 hs2 hg2 hn2;have hs2f:=hs2.rs.fix;have hB2:=hg2.base G (by omega) (aF hB1 _);have hx2:Rs 5 H2 x (l.map aH):=hkeep H2 hB2;have q2:=hx2.cut Tryz.prog (by omega) (some (i:Int)) none hsr;have q2o:=q2.2 41 (by decide) (by decide);have sl2:Rs 5 H2 (aS x (some (i:Int)) none) ((l.drop i).map aH):=by
    have e:(l.map aH).take l.length=l.map aH:=zG (by simp);rw [List.map_drop];simpa [eY,-aS,e,-List.map_drop] using q2.1
   have sl2f:=sl2.fix;have lx2:=hx2.len2;simp [au,bK,-ae,-ai,-ah,-AV.solid,-aS,-aU,-List.map_append,e0,e3,e5,fx,hs2f,sl2f,q2o,lx2];refine aG (lo:=G.length) (n:=5) (es:=(l.take i).map aH++[aH X]) (ys:=(l.drop i).map aH) hs2 (by have:=aV hB2;omega) (bL sl2 (by simp) (by simp) (by simp)) (by simp <;> omega) ?_;intro s3 H3 hs3 hg3 hn3;have hB3:=hg3.base G (by omega) hB2;have hs3f:=hs3.rs.fix;simp [au,bK,-ae,-ai,-ah,-AV.solid,-aS,-aU,-List.map_append,e0,e3,e5,hs3f];obtain⟨g3,hg3⟩:=hB3;refine⟨⟨_,by rw [hg3,←hGd,zK]⟩,?_⟩;have e:Hm X l=l.take i++X::l.drop i:=pR lS.swo hs hi hk1 hk2;rw [e];have hl3:Ls 5 G.length H3 s3 ((l.take i++X::l.drop i).map aH):=by simpa using hs3
   exact hl3.frz (by rw [←hGd];simp) (l9 _)
 ·have hk2: ∀y',l[i]? =some y'→decide (jS X y'<0)=true:=fun y' hy2=>absurd (aK hy2) hlt;have hltI: ¬(i:Int)<l.length:=by omega
  simp [au,bK,-ae,-ai,-ah,-AV.solid,-aS,-aU,e0,e3,e5,hlt,hltI,hT0,fx,lx,q1f,q1o];refine⟨by decide,?_⟩;refine aG (lo:=G.length) (n:=5) (es:=[]) (ys:=(l.take i).map aH) (Ls.own (by simp) (by omega) rfl (by simp)) (by simp) (bL sl1 (by simp) (by simp) (by simp)) (by simp <;> omega) ?_;intro s1 H1 hs1 hg1 hn1;have hs1f:=hs1.rs.fix;have hB1:=hg1.base G (by omega) ⟨_,rfl⟩;have hT1:=at3 (hcell H1 hB1);simp only [aH] at hT1;simp [au,bK,-ae,-ai,-ah,-AV.solid,-aS,-aU,-List.map_append,e0,e3,e5,hs1f,fx,lx,hT1];refine aG (lo:=G.length) (n:=5) (es:=(l.take i).map aH) (ys:=[aH X]) (by simpa using hs1.more _) (by have:=aV hB1;simp <;> omega) (by simp [bu,aH]) (by simp <;> omega) ?_;intro s2 H2 hs2 hg2 hn2;have hs2f:=hs2.rs.fix;have hB2:=hg2.base G (by omega) (aF hB1 _);have hx2:Rs 5 H2 x (l.map aH):=hkeep H2 hB2;have q2:=hx2.cut Tryz.prog (by omega) (some (i:Int)) none hsr;have q2o:=q2.2 41 (by decide) (by decide);have sl2:Rs 5 H2 (aS x (some (i:Int)) none) ((l.drop i).map aH):=by
   have e:(l.map aH).take l.length=l.map aH:=zG (by simp);rw [List.map_drop];simpa [eY,-aS,e,-List.map_drop] using q2.1
  have sl2f:=sl2.fix;have lx2:=hx2.len2;simp [au,bK,-ae,-ai,-ah,-AV.solid,-aS,-aU,-List.map_append,e0,e3,e5,fx,hs2f,sl2f,q2o,lx2];refine aG (lo:=G.length) (n:=5) (es:=(l.take i).map aH++[aH X]) (ys:=(l.drop i).map aH) hs2 (by have:=aV hB2;omega) (bL sl2 (by simp) (by simp) (by simp)) (by simp <;> omega) ?_;intro s3 H3 hs3 hg3 hn3;have hB3:=hg3.base G (by omega) hB2;have hs3f:=hs3.rs.fix;simp [au,bK,-ae,-ai,-ah,-AV.solid,-aS,-aU,-List.map_append,e0,e3,e5,hs3f];obtain⟨g3,hg3⟩:=hB3;refine⟨⟨_,by rw [hg3,←hGd,zK]⟩,?_⟩;have e:Hm X l=l.take i++X::l.drop i:=pR lS.swo hs hi hk1 hk2;rw [e];have hl3:Ls 5 G.length H3 s3 ((l.take i++X::l.drop i).map aH):=by simpa using hs3
  exact hl3.frz (by rw [←hGd];simp) (l9 _)
end Go.Proofs.YtkpioblbeiaefaaGreat
