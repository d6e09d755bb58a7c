/- Part 26 of the lemmas below the statements of this seat: Part. -/
import Derived.Test.YtkpioblbeiaefaaGreatPb25
set_option linter.unusedSectionVars false
set_option linter.unusedVariables false
set_option linter.unusedSimpArgs false
set_option linter.unnecessarySimpa false
set_option maxRecDepth 100000
namespace Go.Proofs.YtkpioblbeiaefaaGreat
open Go Go.Abs Go.Toll
variable {gl : aR} {h : ak}
theorem Ny (d num den:Nat)(hd:d<68719476736)(hn:num≤den)(h0:0<den)(h1:den<9223372036854775808):af Tryz.prog gl 171 [.int .i64 d,.int .i64 num,.int .i64 den] h fun v h'=>v= .int .i64 ((d*num / den:Nat):Int)∧h'=h:=by
 refine af.data (.int _ _) (af.body Tryz.f171 _ mixed Tryz.func171 rfl rfl (by simp [Tryz.ntmps171]) ?_);have wd:IntKind.u64.wrap (d:Int)=(d:Int):=bT (by omega);have wn:IntKind.u64.wrap (num:Int)=(num:Int):=bT (by omega);have wden:IntKind.u64.wrap (den:Int)=(den:Int):=bT (by omega);have hle:=part_le (d:=d) hn h0;have hlt:d*num / 18446744073709551616<den:=by
  rw [Nat.div_lt_iff_lt_mul (by omega)];have h2:d*num≤d*den:=Nat.mul_le_mul_left _ hn;have h3:d*den≤68719476736*den:=Nat.mul_le_mul_right _ (by omega);omega
 have hsp:(d*num / 18446744073709551616*18446744073709551616+d*num % 18446744073709551616)=d*num:=Nat.div_add_mod' _ _;have c1:=fun H:ak=>Qg (gl:=gl) (h:=H) d num (by omega) (by omega);have c2:=fun H:ak=>Qe (gl:=gl) (h:=H) (d*num / 18446744073709551616) (d*num % 18446744073709551616) den (Nat.mod_lt _ (by omega)) h1 hlt;rw [hsp] at c2;generalize d*num / 18446744073709551616=A at*;generalize d*num % 18446744073709551616=B at*;generalize hP:d*num / den=P at*;have wp:IntKind.i64.wrap (P:Int)=(P:Int):=aD (by omega) (by omega);simp [wd,wn,wden];refine ay.pure _ (fun _=>c1 _) ?_;simp [wd,wn,wden];refine ay.any (c2 _) ?_;rintro x h' ⟨⟨r,rfl⟩,rfl⟩;simp [wp]
def wz (k:Nat):Nat:=2^37 / 2^(k+1)
def JP (num k:Nat):Nat:=num / 2^(37 - k)
theorem Qc (k:Nat):wz (k+1)=wz k / 2:=by rw [wz,wz,Nat.div_div_eq_div_mul,←Nat.pow_succ]
theorem RZ:wz 37=0:=by decide+kernel
theorem Qd:wz 0=68719476736:=by decide+kernel
theorem KE {k:Nat} (h:k<37):1≤wz k∧wz k≤68719476736∧wz k=2^(36 - k):=by
 have hA:wz k=2^(36 - k):=by rw [wz,Nat.pow_div (by omega) (by omega),show 37 - (k+1)=36 - k by omega]
 rw [hA];have:2^(36 - k)≤2^36:=Nat.pow_le_pow_right (by omega) (by omega);have e36:(2:Nat)^36=68719476736:=by decide+kernel
 exact⟨Nat.one_le_two_pow,by omega,rfl⟩
theorem Q0 {num k:Nat} (h:k<37):JP num (k+1)=num / wz k∧JP num k=num / wz k / 2:=by
 have hA:=(KE h).2.2;refine⟨by rw [JP,hA,show 37 - (k+1)=36 - k by omega],?_⟩;rw [JP,hA,Nat.div_div_eq_div_mul,←Nat.pow_succ,show (36 - k).succ=37 - k by omega]
theorem Q3 {num:Nat} (h:num<68719476736):JP num 0=0:=by
 have e37:(2:Nat)^37=137438953472:=by decide+kernel
 rw [JP,Nat.sub_zero,e37,Nat.div_eq_of_lt (by omega)]
theorem Tq (num:Nat):JP num 37=num:=by simp [JP]
set_option maxHeartbeats 4000000 in
theorem Oe (d num den:Nat)(hd:d<68719476736)(hn:num≤den)(h0:0<den)(h1:den<68719476736):af Tryz.prog gl 148 [.int .i64 d,.int .i64 num,.int .i64 den] h fun v h'=>v= .int .i64 ((d*num / den:Nat):Int)∧h'=h:=by
 refine af.data (.int _ _) (af.body Tryz.f148 _ mixed Tryz.func148 rfl rfl (by simp [Tryz.ntmps148]) ?_);have hle:=part_le (d:=d) hn h0;obtain⟨W,hW⟩: ∃W,W=d / den:=⟨_,rfl⟩;obtain⟨L,hL⟩: ∃L,L=d % den:=⟨_,rfl⟩;have hLd:L<den:=by rw [hL];exact Nat.mod_lt _ h0
 have hpe:=Vg (d:=d) (num:=num) h0;rw [←hW,←hL] at hpe;have hdz: ¬(den:Int)=0:=by omega
 have hdz': ¬den=0:=by omega
 have eW:IntKind.i64.wrap ((d:Int) / (den:Int))=(W:Int):=by rw [show ((d:Int) / (den:Int))=((d / den:Nat):Int) by omega,←hW,aD (by have:=Nat.div_le_self d den;omega) (by have:=Nat.div_le_self d den;omega)]
 have eL:(d:Int).tmod (den:Int)=(L:Int):=by rw [Int.tmod_eq_emod_of_nonneg (by omega),hL];rfl
 simp [hdz,hdz',eW,eL];refine⟨by decide,?_⟩;refine aW.up mixed 37 (fun k fr H=>fr 1= .int .i64 num∧fr 2= .int .i64 den∧fr 7= .int .i64 W∧fr 8= .int .i64 L∧fr 11= .int .i64 (wz k:Nat)∧
   ∃value rest:Nat,fr 9= .int .i64 value∧fr 10= .int .i64 rest∧rest<den∧L*JP num k=value*den+rest∧ ∃g,H=h++g) 0 (by omega)
  ⟨by simp,by simp,by simp,by simp,by simp [Qd],0,0,by simp,by simp,h0,by rw [Q3 (by omega)];simp,by simp⟩ ?_
 rintro k fr H hk ⟨e1,e2,e7,e8,e11,value,rest,e9,e10,hr,hm,hBs⟩;rcases zN k 37 with hlt | hge
 ·obtain⟨b1,b2,_⟩:=KE hlt;obtain⟨p1,p2⟩:=Q0 (num:=num) hlt;have hnx:=Qc k;obtain⟨B,hBe⟩: ∃B,B=wz k:=⟨_,rfl⟩;rw [←hBe] at b1 b2 p1 p2 hnx e11;obtain⟨m2,hm2⟩: ∃m2,m2=num / B:=⟨_,rfl⟩;rw [←hm2] at p1 p2;have hm2b:m2≤num:=by rw [hm2];exact Nat.div_le_self _ _
  rw [p2] at hm;have hst:L*m2=2*(value*den+rest)+L*(m2 % 2):=by
   have:=Nat.div_add_mod m2 2;rw [←hm,Nat.mul_left_comm,←Nat.mul_add,this]
  have hvb:value≤68719476736:=by
   have h3:value*den≤L*(m2 / 2):=by omega
   have h4:L*(m2 / 2)≤den*(m2 / 2):=Nat.mul_le_mul_right _ (by omega);have h5:value*den≤(m2 / 2)*den:=by rw [Nat.mul_comm (m2 / 2)];omega
   have:=Nat.le_of_mul_le_mul_right h5 h0;omega
  have hB1:(1:Int)≤B:=by omega
  have hB2: ¬(B:Int)=0:=by omega
  have hbz: ¬B=0:=by omega
  have w2v:IntKind.i64.wrap (2*(value:Int))=((2*value:Nat):Int):=by rw [show (2*(value:Int))=((2*value:Nat):Int) by omega,aD (by omega) (by omega)]
  have w2r:IntKind.i64.wrap (2*(rest:Int))=((2*rest:Nat):Int):=by rw [show (2*(rest:Int))=((2*rest:Nat):Int) by omega,aD (by omega) (by omega)]
  have hmq:IntKind.i64.wrap ((num:Int) / (B:Int))=(m2:Int):=by rw [show ((num:Int) / (B:Int))=((num / B:Nat):Int) by omega,←hm2,aD (by omega) (by omega)]
  have wbit:IntKind.i64.wrap ((B:Int) / 2)=(wz (k+1):Int):=by rw [hnx,show ((B:Int) / 2)=((B / 2:Nat):Int) by omega,aD (by omega) (by omega)]
  have htm:(m2:Int).tmod 2=((m2 % 2:Nat):Int):=by rw [Int.tmod_eq_emod_of_nonneg (by omega)];omega
  by_cases c1:den≤2*rest
  ·have d1:(den:Int)≤((2*rest:Nat):Int):=by omega
   have d1':den≤2*rest:=c1;rcases (by omega:m2 % 2=0∨m2 % 2=1) with hb | hb
   ·have hb1:(m2:Int).tmod 2=0:=by rw [htm,hb];rfl
    rw [hb] at hst;have wr1:IntKind.i64.wrap (((2*rest:Nat):Int) - (den:Int))=((2*rest - den:Nat):Int):=by rw [show (((2*rest:Nat):Int) - (den:Int))=((2*rest - den:Nat):Int) by omega,aD (by omega) (by omega)]
    have wv1:IntKind.i64.wrap (((2*value:Nat):Int)+1)=((2*value+1:Nat):Int):=by rw [show (((2*value:Nat):Int)+1)=((2*value+1:Nat):Int) by omega,aD (by omega) (by omega)]
    simp [-Int.natCast_add,-Int.natCast_mul,-Int.natCast_ediv,-Int.natCast_emod,e1,e2,e7,e8,e9,e10,e11,hB1,hB2,hdz,hbz,w2v,w2r,hmq,d1,d1',wr1,wv1,hb1,wbit];exact⟨k+1,by omega,by omega,rfl,2*value+1,rfl,2*rest - den,rfl,by omega,by rw [p1,hst];simp only [Nat.add_mul,Nat.mul_assoc,Nat.one_mul];omega,hBs⟩
   ·have hb1:(m2:Int).tmod 2=1:=by rw [htm,hb];rfl
    rw [hb] at hst;by_cases c2:den≤2*rest - den+L
    ·have d2:(den:Int)≤((2*rest - den+L:Nat):Int):=by omega
     have d2':den≤2*rest - den+L:=c2;have wr1:IntKind.i64.wrap (((2*rest:Nat):Int) - (den:Int))=((2*rest - den:Nat):Int):=by rw [show (((2*rest:Nat):Int) - (den:Int))=((2*rest - den:Nat):Int) by omega,aD (by omega) (by omega)]
     have wv1:IntKind.i64.wrap (((2*value:Nat):Int)+1)=((2*value+1:Nat):Int):=by rw [show (((2*value:Nat):Int)+1)=((2*value+1:Nat):Int) by omega,aD (by omega) (by omega)]
     have wr2:IntKind.i64.wrap (((2*rest - den:Nat):Int)+(L:Int))=((2*rest - den+L:Nat):Int):=by rw [show (((2*rest - den:Nat):Int)+(L:Int))=((2*rest - den+L:Nat):Int) by omega,aD (by omega) (by omega)]
     have wr3:IntKind.i64.wrap (((2*rest - den+L:Nat):Int) - (den:Int))=((2*rest - den+L - den:Nat):Int):=by rw [show (((2*rest - den+L:Nat):Int) - (den:Int))=((2*rest - den+L - den:Nat):Int) by omega,aD (by omega) (by omega)]
     have wv3:IntKind.i64.wrap (((2*value+1:Nat):Int)+1)=((2*value+1+1:Nat):Int):=by rw [show (((2*value+1:Nat):Int)+1)=((2*value+1+1:Nat):Int) by omega,aD (by omega) (by omega)]
     simp [-Int.natCast_add,-Int.natCast_mul,-Int.natCast_ediv,-Int.natCast_emod,e1,e2,e7,e8,e9,e10,e11,hB1,hB2,hdz,hbz,w2v,w2r,hmq,d1,d1',wr1,wv1,wr2,d2,d2',wr3,wv3,hb1,wbit];exact⟨k+1,by omega,by omega,rfl,2*value+1+1,rfl,2*rest - den+L - den,rfl,by omega,by rw [p1,hst];simp only [Nat.add_mul,Nat.mul_assoc,Nat.one_mul];omega,hBs⟩
    ·have d2: ¬(den:Int)≤((2*rest - den+L:Nat):Int):=by omega
     have d2': ¬den≤2*rest - den+L:=c2;have wr1:IntKind.i64.wrap (((2*rest:Nat):Int) - (den:Int))=((2*rest - den:Nat):Int):=by rw [show (((2*rest:Nat):Int) - (den:Int))=((2*rest - den:Nat):Int) by omega,aD (by omega) (by omega)]
     have wv1:IntKind.i64.wrap (((2*value:Nat):Int)+1)=((2*value+1:Nat):Int):=by rw [show (((2*value:Nat):Int)+1)=((2*value+1:Nat):Int) by omega,aD (by omega) (by omega)]
     have wr2:IntKind.i64.wrap (((2*rest - den:Nat):Int)+(L:Int))=((2*rest - den+L:Nat):Int):=by rw [show (((2*rest - den:Nat):Int)+(L:Int))=((2*rest - den+L:Nat):Int) by omega,aD (by omega) (by omega)]
     simp [-Int.natCast_add,-Int.natCast_mul,-Int.natCast_ediv,-Int.natCast_emod,e1,e2,e7,e8,e9,e10,e11,hB1,hB2,hdz,hbz,w2v,w2r,hmq,d1,d1',wr1,wv1,wr2,d2,d2',hb1,wbit];exact⟨k+1,by omega,by omega,rfl,2*value+1,rfl,2*rest - den+L,rfl,by omega,by rw [p1,hst];simp only [Nat.add_mul,Nat.mul_assoc,Nat.one_mul];omega,hBs⟩
  ·have d1: ¬(den:Int)≤((2*rest:Nat):Int):=by omega
   have d1': ¬den≤2*rest:=c1;rcases (by omega:m2 % 2=0∨m2 % 2=1) with hb | hb
   ·have hb1:(m2:Int).tmod 2=0:=by rw [htm,hb];rfl
    rw [hb] at hst;simp [-Int.natCast_add,-Int.natCast_mul,-Int.natCast_ediv,-Int.natCast_emod,e1,e2,e7,e8,e9,e10,e11,hB1,hB2,hdz,hbz,w2v,w2r,hmq,d1,d1',hb1,wbit];exact⟨k+1,by omega,by omega,rfl,2*value,rfl,2*rest,rfl,by omega,by rw [p1,hst];simp only [Nat.add_mul,Nat.mul_assoc,Nat.one_mul];omega,hBs⟩
   ·have hb1:(m2:Int).tmod 2=1:=by rw [htm,hb];rfl
    rw [hb] at hst;by_cases c2:den≤2*rest+L
    ·have d2:(den:Int)≤((2*rest+L:Nat):Int):=by omega
     have d2':den≤2*rest+L:=c2;have wr2:IntKind.i64.wrap (((2*rest:Nat):Int)+(L:Int))=((2*rest+L:Nat):Int):=by rw [show (((2*rest:Nat):Int)+(L:Int))=((2*rest+L:Nat):Int) by omega,aD (by omega) (by omega)]
     have wr3:IntKind.i64.wrap (((2*rest+L:Nat):Int) - (den:Int))=((2*rest+L - den:Nat):Int):=by rw [show (((2*rest+L:Nat):Int) - (den:Int))=((2*rest+L - den:Nat):Int) by omega,aD (by omega) (by omega)]
     have wv3:IntKind.i64.wrap (((2*value:Nat):Int)+1)=((2*value+1:Nat):Int):=by rw [show (((2*value:Nat):Int)+1)=((2*value+1:Nat):Int) by omega,aD (by omega) (by omega)]
     simp [-Int.natCast_add,-Int.natCast_mul,-Int.natCast_ediv,-Int.natCast_emod,e1,e2,e7,e8,e9,e10,e11,hB1,hB2,hdz,hbz,w2v,w2r,hmq,d1,d1',wr2,d2,d2',wr3,wv3,hb1,wbit];exact⟨k+1,by omega,by omega,rfl,2*value+1,rfl,2*rest+L - den,rfl,by omega,by rw [p1,hst];simp only [Nat.add_mul,Nat.mul_assoc,Nat.one_mul];omega,hBs⟩
    ·have d2: ¬(den:Int)≤((2*rest+L:Nat):Int):=by omega
     have d2': ¬den≤2*rest+L:=c2;have wr2:IntKind.i64.wrap (((2*rest:Nat):Int)+(L:Int))=((2*rest+L:Nat):Int):=by rw [show (((2*rest:Nat):Int)+(L:Int))=((2*rest+L:Nat):Int) by omega,aD (by omega) (by omega)]
     simp [-Int.natCast_add,-Int.natCast_mul,-Int.natCast_ediv,-Int.natCast_emod,e1,e2,e7,e8,e9,e10,e11,hB1,hB2,hdz,hbz,w2v,w2r,hmq,d1,d1',wr2,d2,d2',hb1,wbit];exact⟨k+1,by omega,by omega,rfl,2*value,rfl,2*rest+L,rfl,by omega,by rw [p1,hst];simp only [Nat.add_mul,Nat.mul_assoc,Nat.one_mul];omega,hBs⟩
 ·obtain rfl:k=37:=by omega
  rw [RZ] at e11;rw [Tq] at hm;have hval:value=L*num / den:=by
   rw [hm,Nat.add_comm,Nat.add_mul_div_right _ _ h0,Nat.div_eq_of_lt hr,Nat.zero_add]
  have hfin:IntKind.i64.wrap (IntKind.i64.wrap ((W:Int)*(num:Int))+(value:Int))=((d*num / den:Nat):Int):=by
   obtain⟨P,hP⟩: ∃P,P=W*num:=⟨_,rfl⟩;obtain⟨Q,hQ⟩: ∃Q,Q=d*num / den:=⟨_,rfl⟩;have e:(W:Int)*(num:Int)=(P:Int):=by rw [hP,Int.natCast_mul]
   rw [←hval,←hP,←hQ] at hpe;rw [←hQ] at hle ⊢;rw [e,aD (n:=(P:Int)) (by omega) (by omega),aD (by omega) (by omega)];omega
  simp [-Int.natCast_ediv,e1,e2,e7,e8,e9,e10,e11,hfin];exact⟨by simp,hBs⟩
end Go.Proofs.YtkpioblbeiaefaaGreat
