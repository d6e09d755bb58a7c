/- Part 25 of the lemmas below the statements of this seat: TollDiv, Bits. -/
import Derived.Test.YtkpioblbeiaefaaGreatPb08
import Derived.Laws.Bits64b
import Derived.Lib.Mul64
set_option linter.unusedSectionVars false
set_option linter.unusedVariables false
set_option linter.unusedSimpArgs false
set_option linter.unnecessarySimpa false
set_option maxRecDepth 100000
section
namespace Go.Toll
open Go Go.Abs
section
variable {v1 v0 u d : Nat}
structure oo (v1 v0 u d q1 r:Nat):Prop where
 eq:u=q1*v1+r
 ge:(u*4294967296+d) / (v1*4294967296+v0)≤q1
 le:q1≤4294967297
theorem oo.start (h1:2147483648≤v1)(h0:v0<4294967296)(hd:d<4294967296)(hu:u<v1*4294967296+v0):oo v1 v0 u d (u / v1) (u % v1):=by
 have hv:0<v1*4294967296+v0:=by omega
 refine⟨by have:=Nat.div_add_mod u v1;rw [Nat.mul_comm] at this;omega,?_,?_⟩
 ·have h3:=Nat.div_mul_le_self (u*4294967296+d) (v1*4294967296+v0);generalize (u*4294967296+d) / (v1*4294967296+v0)=q at*;rw [Nat.le_div_iff_mul_le (by omega)];rw [Nat.mul_add,←Nat.mul_assoc] at h3;have:0≤q*v0:=Nat.zero_le _;omega
 ·have h3:=Nat.div_mul_le_self u v1;generalize u / v1=q at*;rcases zN q 4294967298 with c | c
  ·omega
  ·have:=Nat.mul_le_mul_right v1 c;omega
theorem oo.step {q1 r:Nat} (g:oo v1 v0 u d q1 r)(hd:d<4294967296)(hu:u<v1*4294967296+v0)(hc:4294967296≤q1∨4294967296*r+d<q1*v0):oo v1 v0 u d (q1 - 1) (r+v1)∧1≤q1:=by
 have hv:0<v1*4294967296+v0:=by omega
 have h3:=Nat.div_mul_le_self (u*4294967296+d) (v1*4294967296+v0);have ge:=g.ge;have eq:=g.eq;generalize hq:(u*4294967296+d) / (v1*4294967296+v0)=q at*;have hlt:q<q1:=by
  rcases hc with c | c
  ·have hqB:q<4294967296:=by
    rw [←hq,Nat.div_lt_iff_lt_mul hv];have:(u+1)*4294967296≤(v1*4294967296+v0)*4294967296:=Nat.mul_le_mul_right _ hu;rw [Nat.mul_comm 4294967296];omega
   omega
  ·rcases zN q q1 with e | e
   ·exact e
   ·exfalso
    have h4:=Nat.mul_le_mul_right (v1*4294967296+v0) e;have h5:q1*(v1*4294967296+v0)=q1*v1*4294967296+q1*v0:=by rw [Nat.mul_add,Nat.mul_assoc]
    omega
 have hp:1≤q1:=by omega
 refine⟨⟨?_,by omega,by have:=g.le;omega⟩,hp⟩;obtain⟨k,rfl⟩: ∃k,q1=k+1:=⟨q1 - 1,by omega⟩;rw [Nat.add_mul,Nat.one_mul] at eq;rw [Nat.add_sub_cancel];omega
theorem oo.done {q1 r:Nat} (g:oo v1 v0 u d q1 r)(hu:u<v1*4294967296+v0)(hc:q1*v0≤4294967296*r+d):q1=(u*4294967296+d) / (v1*4294967296+v0):=by
 have hv:0<v1*4294967296+v0:=by omega
 refine Nat.le_antisymm ?_ g.ge;rw [Nat.le_div_iff_mul_le hv,Nat.mul_add,←Nat.mul_assoc];have:=g.eq;omega
theorem oo.far {q1 r:Nat} (g:oo v1 v0 u d q1 r)(h0:v0<4294967296)(hu:u<v1*4294967296+v0)(hq:q1≤4294967296)(hr:4294967296≤r):q1=(u*4294967296+d) / (v1*4294967296+v0):=by
 refine g.done hu ?_;have h1:q1*v0≤4294967296*v0:=Nat.mul_le_mul_right _ hq;omega
theorem uC (hd:d<4294967296)(hu:u<v1*4294967296+v0):(u*4294967296+d) / (v1*4294967296+v0)<4294967296:=by
 have hv:0<v1*4294967296+v0:=by omega
 rw [Nat.div_lt_iff_lt_mul hv];have:(u+1)*4294967296≤(v1*4294967296+v0)*4294967296:=Nat.mul_le_mul_right _ hu;rw [Nat.mul_comm 4294967296];omega
end
theorem MH {v x B b q r:Nat} (hv:0<v)(h:v*q+r=x):q*B+(r*B+b) / v=(x*B+b) / v:=by
 subst h;have e:(v*q+r)*B+b=(r*B+b)+v*(q*B):=by
  rw [Nat.add_mul,Nat.mul_assoc,Nat.add_comm (v*(q*B)),Nat.add_right_comm]
 have e2:((r*B+b)+v*(q*B)) / v=(r*B+b) / v+q*B:=Nat.add_mul_div_left _ _ hv;rw [e,e2];exact Nat.add_comm _ _
theorem OP {v u a b:Nat} (hv:0<v):(u*4294967296+a) / v*4294967296+((u*4294967296+a) % v*4294967296+b) / v=((u*4294967296+a)*4294967296+b) / v:=
 MH hv (Nat.div_add_mod (u*4294967296+a) v)
theorem Rh {a y s:Nat}:(a*2^s) / (y*2^s)=a / y:=Nat.mul_div_mul_right a y (Nat.two_pow_pos s)
theorem Um:(2:Nat)^64=18446744073709551616:=by decide+kernel
theorem Lu {a:Nat} (h:a<18446744073709551616):a<2^64:=by rw [Um];exact h
theorem Xu {hi lo s:Nat} (hs:s≤64)(hlo:lo<18446744073709551616):hi*2^s ||| lo / 2^(64 - s)=hi*2^s+lo / 2^(64 - s):=by
 have h:lo / 2^(64 - s)<2^s:=by
  rw [Nat.div_lt_iff_lt_mul (Nat.two_pow_pos _),←Nat.pow_add,show s+(64 - s)=64 by omega];exact Lu hlo
 have:=Nat.shiftLeft_add_eq_or_of_lt h hi;rw [Nat.shiftLeft_eq] at this;exact this.symm
theorem SC {lo s:Nat} (hs:s≤64):lo*2^s=lo / 2^(64 - s)*18446744073709551616+lo*2^s % 18446744073709551616:=by
 have h:=Nat.div_add_mod (lo*2^s) 18446744073709551616;have e:lo*2^s / 18446744073709551616=lo / 2^(64 - s):=by
  have e64:(18446744073709551616:Nat)=2^(64 - s)*2^s:=by rw [←Nat.pow_add,show 64 - s+s=64 by omega,Um]
  rw [e64,Nat.mul_div_mul_right _ _ (Nat.two_pow_pos s)]
 rw [e] at h;omega
theorem BF {hi lo y s:Nat} (hs:s≤64)(hlo:lo<18446744073709551616)(hhi:hi<y):
  hi*2^s+lo / 2^(64 - s)<y*2^s∧(hi*18446744073709551616+lo)*2^s=(hi*2^s+lo / 2^(64 - s))*18446744073709551616+lo*2^s % 18446744073709551616:=by
 have h:lo / 2^(64 - s)<2^s:=by
  rw [Nat.div_lt_iff_lt_mul (Nat.two_pow_pos _),←Nat.pow_add,show s+(64 - s)=64 by omega];exact Lu hlo
 have h2:(hi+1)*2^s≤y*2^s:=Nat.mul_le_mul_right _ hhi;rw [Nat.add_mul,Nat.one_mul] at h2;refine⟨by omega,?_⟩;have:=SC (lo:=lo) hs;rw [Nat.add_mul,Nat.mul_right_comm];omega
theorem RL {hi lo y s:Nat} (hs:s≤64)(hlo:lo<18446744073709551616)(hhi:hi<y)(u l v:Nat)(hu:u=hi*2^s+lo / 2^(64 - s))(hl:l=lo*2^s % 18446744073709551616)(hv:v=y*2^s):
  (u*4294967296+l / 4294967296) / v*4294967296+((u*4294967296+l / 4294967296) % v*4294967296+l % 4294967296) / v=(hi*18446744073709551616+lo) / y:=by
 have hy:0<v:=by rw [hv];exact Nat.mul_pos (by omega) (Nat.two_pow_pos s)
 rw [OP hy];have e:(u*4294967296+l / 4294967296)*4294967296+l % 4294967296=(hi*18446744073709551616+lo)*2^s:=by
  rw [(BF hs hlo hhi).2,←hu,←hl];omega
 rw [e,hv,Rh]
theorem Vg {d num den:Nat} (h:0<den):d / den*num+d % den*num / den=d*num / den:=by
 have e:=Nat.div_add_mod d den;generalize d / den=w at*;generalize d % den=l at*;rw [←e,Nat.add_mul,Nat.mul_assoc,Nat.add_comm (den*(w*num)),Nat.add_mul_div_left _ _ h,Nat.add_comm]
theorem part_le {d num den:Nat} (h:num≤den)(h0:0<den):d*num / den≤d:=by
 rw [Nat.div_le_iff_le_mul_add_pred h0];have:=Nat.mul_le_mul_left d h;rw [Nat.mul_comm den];omega
end Go.Toll
namespace Go.Toll
open Go Go.Abs
def JC:List UInt8:=[0]++[1]++List.replicate 2 2++List.replicate 4 3++List.replicate 8 4++List.replicate 16 5++List.replicate 32 6++List.replicate 64 7++List.replicate 128 8
def Aw (x:Nat):Nat:=(JC[x]?.getD 0).toNat
def uQ (x:Nat):Nat:=if 256≤x then 8+Aw (x / 256) else Aw x
def xA (x:Nat):Nat:=if 65536≤x then 16+uQ (x / 65536) else uQ x
def qY (x:Nat):Nat:=if 4294967296≤x then 32+xA (x / 4294967296) else xA x
def Bl (x n:Nat):Prop:=x<2^n∧(n=0∨2^(n - 1)≤x)
theorem Xx: ∀k:Fin 256,(k.val<2^Aw k.val∧(Aw k.val=0∨2^(Aw k.val - 1)≤k.val))∧Aw k.val≤8:=by decide+kernel
theorem Bl.more {x n k:Nat} (h:Bl (x / 2^k) n)(hx:2^k≤x):Bl x (k+n):=by
 obtain⟨h1,h2⟩:=h;have hp:0<2^k:=Nat.two_pow_pos k;have h3:1≤x / 2^k:=(Nat.one_le_div_iff hp).2 hx;have hn:n≠0:=by
  rintro rfl;simp at h1;omega
 have h2:=h2.resolve_left hn;refine⟨?_,.inr ?_⟩
 ·rw [Nat.div_lt_iff_lt_mul hp,←Nat.pow_add,Nat.add_comm] at h1;exact h1
 ·rw [Nat.le_div_iff_mul_le hp,←Nat.pow_add] at h2;rw [show k+n - 1=n - 1+k by omega];exact h2
theorem Ki {x:Nat} (h:x<256):Bl x (Aw x)∧Aw x≤8:=Xx ⟨x,h⟩
theorem Pp {x:Nat} (h:x<65536):Bl x (uQ x)∧uQ x≤16:=by
 unfold uQ;split
 ·rename_i c;have:=Ki (x:=x / 256) (by omega);exact⟨Bl.more (k:=8) this.1 c,by omega⟩
 ·have:=Ki (x:=x) (by omega);exact⟨this.1,by omega⟩
theorem Pq {x:Nat} (h:x<4294967296):Bl x (xA x)∧xA x≤32:=by
 unfold xA;split
 ·rename_i c;have:=Pp (x:=x / 65536) (by omega);exact⟨Bl.more (k:=16) this.1 c,by omega⟩
 ·have:=Pp (x:=x) (by omega);exact⟨this.1,by omega⟩
theorem Ps {x:Nat} (h:x<18446744073709551616):Bl x (qY x)∧qY x≤64:=by
 unfold qY;split
 ·rename_i c;have:=Pq (x:=x / 4294967296) (by omega);exact⟨Bl.more (k:=32) this.1 c,by omega⟩
 ·have:=Pq (x:=x) (by omega);exact⟨this.1,by omega⟩
theorem NS {y:Nat} (h0:0<y)(h:y<18446744073709551616):9223372036854775808≤y*2^(64 - qY y)∧y*2^(64 - qY y)<18446744073709551616∧(y<9223372036854775808→1≤64 - qY y)∧qY y≤64∧1≤qY y:=by
 obtain⟨⟨h1,h2⟩,h3⟩:=Ps h;have hn:qY y≠0:=by intro e;rw [e] at h1;simp at h1;omega
 have h2:=h2.resolve_left hn;generalize qY y=n at*;have e63:(9223372036854775808:Nat)=2^(n - 1)*2^(64 - n):=by rw [←Nat.pow_add,show n - 1+(64 - n)=63 by omega]
 have e64:(18446744073709551616:Nat)=2^n*2^(64 - n):=by rw [←Nat.pow_add,show n+(64 - n)=64 by omega,Um]
 refine⟨by rw [e63];exact Nat.mul_le_mul_right _ h2,by rw [e64];exact Nat.mul_lt_mul_of_pos_right h1 (Nat.two_pow_pos _),fun hy=> ?_,h3,by omega⟩;rcases zN n 64 with c | c
 ·omega
 ·obtain rfl:n=64:=by omega
  have:(2:Nat)^63=9223372036854775808:=by decide+kernel
  have h2:2^63≤y:=h2;omega
end Go.Toll
end
section
namespace Go.Proofs.YtkpioblbeiaefaaGreat
open Go Go.Abs Go.Toll
variable {gl : aR} {h : ak}
theorem UU (a:Nat):(a:Int).fdiv 4294967296=((a / 4294967296:Nat):Int):=by rw [Int.fdiv_eq_ediv_of_nonneg _ (by omega)];omega
theorem Y0 (a:Nat):(a:Int).fdiv 65536=((a / 65536:Nat):Int):=by rw [Int.fdiv_eq_ediv_of_nonneg _ (by omega)];omega
theorem Zw (a:Nat):(a:Int).fdiv 256=((a / 256:Nat):Int):=by rw [Int.fdiv_eq_ediv_of_nonneg _ (by omega)];omega
theorem Ur {a:Nat} (h:a<256):IntKind.u8.wrap (a:Int)=(a:Int):=by rw [IntKind.wrap_u8];omega
theorem bT {a:Nat} (h:a<18446744073709551616):IntKind.u64.wrap (a:Int)=(a:Int):=by rw [IntKind.wrap_u64];omega
theorem Vt {k:Nat} (hk:k<256)(n:Int)(hn:0≤n)(hn2:n≤64):IntKind.i64.wrap (n+IntKind.i64.wrap ((JC[(IntKind.u8.wrap (k:Int)).toNat]?.getD 0).toNat:Int))=n+Aw k:=by
 have h8:=(Ki hk).2;have e:((JC[(IntKind.u8.wrap (k:Int)).toNat]?.getD 0).toNat:Int)=Aw k:=by rw [Ur hk];rfl
 rw [e,aD (n:=(Aw k:Int)) (by omega) (by omega),aD (by omega) (by omega)]
set_option maxHeartbeats 2000000 in
theorem Qf (x:Nat)(hx:x<18446744073709551616):af Tryz.prog gl 160 [.int .u64 x] h fun v h'=>v= .int .i64 (qY x:Nat)∧h'=h:=by
 refine af.data (.int _ _) (af.body Tryz.f160 _ mixed Tryz.func160 rfl rfl (by simp [Tryz.ntmps160]) ?_);have w48:IntKind.i64.wrap (48:Int)=48:=aD (by omega) (by omega);have w56:IntKind.i64.wrap (56:Int)=56:=aD (by omega) (by omega);have w40:IntKind.i64.wrap (40:Int)=40:=aD (by omega) (by omega);have w24:IntKind.i64.wrap (24:Int)=24:=aD (by omega) (by omega);have w16:IntKind.i64.wrap (16:Int)=16:=aD (by omega) (by omega);have w8:IntKind.i64.wrap (8:Int)=8:=aD (by omega) (by omega);have fin: ∀ {k:Nat} (n m:Int),k<256→0≤n→n≤64→n+Aw k=m→(0≤IntKind.u8.wrap (k:Int)∧IntKind.u8.wrap (k:Int)<256)∧IntKind.i64.wrap (n+IntKind.i64.wrap ((JC[(IntKind.u8.wrap (k:Int)).toNat]?.getD 0).toNat:Int))=m:=fun n m hk h0 h1 e=>
  ⟨by rw [Ur hk];omega,by rw [Vt hk n h0 h1];exact e⟩
 by_cases c1:4294967296≤x
 ·have c1':(4294967296:Int)≤x:=by omega
  have c1n: ¬(x:Int)<4294967296:=by omega
  obtain⟨x1,h1⟩: ∃x1,x1=x / 4294967296:=⟨_,rfl⟩;have hx1:x1<4294967296:=by omega
  have f32:=UU x;rw [←h1] at f32;have hN:qY x=32+xA x1:=by rw [qY,if_pos c1,←h1]
  by_cases c2:65536≤x1
  ·have c2':(65536:Int)≤x1:=by omega
   have c2n: ¬(x1:Int)<65536:=by omega
   obtain⟨x2,h2⟩: ∃x2,x2=x1 / 65536:=⟨_,rfl⟩;have hx2:x2<65536:=by omega
   have f16:=Y0 x1;rw [←h2] at f16;have hC:xA x1=16+uQ x2:=by rw [xA,if_pos c2,←h2]
   by_cases c3:256≤x2
   ·have c3':(256:Int)≤x2:=by omega
    have c3n: ¬(x2:Int)<256:=by omega
    obtain⟨x3,h3⟩: ∃x3,x3=x2 / 256:=⟨_,rfl⟩;have f8:=Zw x2;rw [←h3] at f8;simp [c1,c1',c1n,f32,w48,w56,w40,w24,w16,w8,c2,c2',c2n,f16,c3,c3',c3n,f8];exact fin 56 _ (by omega) (by omega) (by omega) (by rw [hN,hC,uQ,if_pos c3,←h3];omega)
   ·have c3': ¬(256:Int)≤x2:=by omega
    have c3n:(x2:Int)<256:=by omega
    simp [c1,c1',c1n,f32,w48,w56,w40,w24,w16,w8,c2,c2',c2n,f16,c3,c3',c3n];exact fin 48 _ (by omega) (by omega) (by omega) (by rw [hN,hC,uQ,if_neg c3];omega)
  ·have c2': ¬(65536:Int)≤x1:=by omega
   have c2n:(x1:Int)<65536:=by omega
   have hC:xA x1=uQ x1:=by rw [xA,if_neg c2]
   by_cases c3:256≤x1
   ·have c3':(256:Int)≤x1:=by omega
    have c3n: ¬(x1:Int)<256:=by omega
    obtain⟨x3,h3⟩: ∃x3,x3=x1 / 256:=⟨_,rfl⟩;have f8:=Zw x1;rw [←h3] at f8;simp [c1,c1',c1n,f32,w48,w56,w40,w24,w16,w8,c2,c2',c2n,c3,c3',c3n,f8];exact fin 40 _ (by omega) (by omega) (by omega) (by rw [hN,hC,uQ,if_pos c3,←h3];omega)
   ·have c3': ¬(256:Int)≤x1:=by omega
    have c3n:(x1:Int)<256:=by omega
    simp [c1,c1',c1n,f32,w48,w56,w40,w24,w16,w8,c2,c2',c2n,c3,c3',c3n];exact fin 32 _ (by omega) (by omega) (by omega) (by rw [hN,hC,uQ,if_neg c3];omega)
 ·have c1': ¬(4294967296:Int)≤x:=by omega
  have c1n:(x:Int)<4294967296:=by omega
  have hN:qY x=xA x:=by rw [qY,if_neg c1]
  by_cases c2:65536≤x
  ·have c2':(65536:Int)≤x:=by omega
   have c2n: ¬(x:Int)<65536:=by omega
   obtain⟨x2,h2⟩: ∃x2,x2=x / 65536:=⟨_,rfl⟩;have hx2:x2<65536:=by omega
   have f16:=Y0 x;rw [←h2] at f16;have hC:xA x=16+uQ x2:=by rw [xA,if_pos c2,←h2]
   by_cases c3:256≤x2
   ·have c3':(256:Int)≤x2:=by omega
    have c3n: ¬(x2:Int)<256:=by omega
    obtain⟨x3,h3⟩: ∃x3,x3=x2 / 256:=⟨_,rfl⟩;have f8:=Zw x2;rw [←h3] at f8;simp [c1,c1',c1n,w48,w56,w40,w24,w16,w8,c2,c2',c2n,f16,c3,c3',c3n,f8];exact fin 24 _ (by omega) (by omega) (by omega) (by rw [hN,hC,uQ,if_pos c3,←h3];omega)
   ·have c3': ¬(256:Int)≤x2:=by omega
    have c3n:(x2:Int)<256:=by omega
    simp [c1,c1',c1n,w48,w56,w40,w24,w16,w8,c2,c2',c2n,f16,c3,c3',c3n];exact fin 16 _ (by omega) (by omega) (by omega) (by rw [hN,hC,uQ,if_neg c3];omega)
  ·have c2': ¬(65536:Int)≤x:=by omega
   have c2n:(x:Int)<65536:=by omega
   have hC:xA x=uQ x:=by rw [xA,if_neg c2]
   by_cases c3:256≤x
   ·have c3':(256:Int)≤x:=by omega
    have c3n: ¬(x:Int)<256:=by omega
    obtain⟨x3,h3⟩: ∃x3,x3=x / 256:=⟨_,rfl⟩;have f8:=Zw x;rw [←h3] at f8;simp [c1,c1',c1n,w48,w56,w40,w24,w16,w8,c2,c2',c2n,c3,c3',c3n,f8];exact fin 8 _ (by omega) (by omega) (by omega) (by rw [hN,hC,uQ,if_pos c3,←h3];omega)
   ·have c3': ¬(256:Int)≤x:=by omega
    have c3n:(x:Int)<256:=by omega
    simp [c1,c1',c1n,w48,w56,w40,w24,w16,w8,c2,c2',c2n,c3,c3',c3n];exact⟨(fin (k:=x) 0 _ (by omega) (by omega) (by omega) rfl).1,by rw [show (qY x:Int)=0+Aw x by rw [hN,hC,uQ,if_neg c3];omega,←(fin (k:=x) 0 _ (by omega) (by omega) (by omega) rfl).2,Int.zero_add];rfl⟩
theorem R3 (x:Nat)(hx:x<18446744073709551616):af Tryz.prog gl 201 [.int .u64 x] h fun v h'=>v= .int .i64 ((64 - qY x:Nat):Int)∧h'=h:=by
 refine af.data (.int _ _) (af.body Tryz.f201 _ mixed Tryz.func201 rfl rfl (by simp [Tryz.ntmps201]) ?_);have hl:=(Ps hx).2;have ew:IntKind.i64.wrap ((64:Int) - (qY x:Nat))=((64 - qY x:Nat):Int):=by rw [aD (by omega) (by omega)];omega
 simp;refine ay.pure _ (fun _=>Qf x hx) ?_;simp [ew]
theorem maskN (a:Nat)(ha:a<18446744073709551616):bits .and .u64 (a:Int) 4294967295=((a % 4294967296:Nat):Int):=by
 have h:=bits_and_u64_nat a 4294967295 ha (by omega);have e:a &&& 4294967295=a % 4294967296:=Nat.and_two_pow_sub_one_eq_mod a 32;rw [e] at h;exact h
theorem mulN (a b:Nat):(a:Int)*(b:Int)=((a*b:Nat):Int):=(Int.natCast_mul a b).symm
theorem addN (a b:Nat):(a:Int)+(b:Int)=((a+b:Nat):Int):=(Int.natCast_add a b).symm
theorem wrapM (a:Nat):IntKind.u64.wrap (a:Int)=((a % 18446744073709551616:Nat):Int):=by rw [IntKind.wrap_u64];omega
set_option maxHeartbeats 2000000 in
theorem Qg (x y:Nat)(hx:x<18446744073709551616)(hy:y<18446744073709551616):af Tryz.prog gl 189 [.int .u64 x,.int .u64 y] h fun v h'=>v= .tup [.int .u64 ((x*y / 18446744073709551616:Nat):Int),.int .u64 ((x*y % 18446744073709551616:Nat):Int)]∧h'=h:=by
 refine af.data (by simp) (af.body Tryz.f189 _ mixed Tryz.func189 rfl rfl (by simp [Tryz.ntmps189]) ?_);obtain⟨bd,bt,bw,hhi⟩:=Lib.mul64_hi x y hx hy;have ba:=Lib.half_mul_le (a:=x / 4294967296) (b:=y / 4294967296) (by omega) (by omega);have bb:=Lib.half_mul_le (a:=x / 4294967296) (b:=y % 4294967296) (by omega) (by omega);have bc:=Lib.half_mul_le (a:=x % 4294967296) (b:=y / 4294967296) (by omega) (by omega);have ba':x / 4294967296*(y / 4294967296)<18446744073709551616:=by omega
 have bb':x / 4294967296*(y % 4294967296)<18446744073709551616:=by omega
 have bc':x % 4294967296*(y / 4294967296)<18446744073709551616:=by omega
 have bh1:x / 4294967296*(y / 4294967296)+(x / 4294967296*(y % 4294967296)+x % 4294967296*(y % 4294967296) / 4294967296) / 4294967296<18446744073709551616:=by omega
 have bh:x / 4294967296*(y / 4294967296)+(x / 4294967296*(y % 4294967296)+x % 4294967296*(y % 4294967296) / 4294967296) / 4294967296+((x / 4294967296*(y % 4294967296)+x % 4294967296*(y % 4294967296) / 4294967296) % 4294967296+x % 4294967296*(y / 4294967296)) / 4294967296<18446744073709551616:=by omega
 simp [-Int.natCast_mul,-Int.natCast_add,-Int.natCast_ediv,-Int.natCast_emod];simp only [maskN x hx,maskN y hy,UU,mulN,addN,bT bd,bT bb',bT bt,maskN _ bt,bT bc',bT bw,bT ba',bT bh1,bT bh,wrapM (x*y)];rw [hhi];exact⟨rfl,trivial⟩
theorem mf {q1 r v0 d:Nat} (hr:r<4294967296)(hd:d<4294967296)(h0:v0<4294967296)(hq: ¬4294967296≤q1):
  IntKind.u64.wrap ((q1:Int)*v0)=((q1*v0:Nat):Int)∧IntKind.u64.wrap (IntKind.u64.wrap (4294967296*(r:Int))+d)=((4294967296*r+d:Nat):Int):=by
 have h1:q1*v0≤4294967295*4294967295:=Nat.mul_le_mul (by omega) (by omega);have e1:(4294967296:Int)*(r:Int)=((4294967296*r:Nat):Int):=by omega
 refine⟨by rw [mulN,bT (by omega)],?_⟩;rw [e1,bT (by omega),addN,bT (by omega)]
set_option maxHeartbeats 8000000 in
theorem Qe (hi lo y : Nat) (hlo : lo < 18446744073709551616) (hy : y < 9223372036854775808) (hhi : hi < y) : af Tryz.prog gl 190 [.int .u64 hi, .int .u64 lo, .int .u64 y] h fun v h' => (∃ r : Int, v = .tup [.int .u64 (((hi * 18446744073709551616 + lo) / y : Nat) : Int), .int .u64 r]) ∧ h' = h := by
  refine af.freshR (af.body Tryz.f190 _ mixed Tryz.func190 rfl rfl (by simp [Tryz.ntmps190]) ?_)
  have hy0 : 0 < y := by omega
  have k1 : ¬ (y : Int) = 0 := by omega
  have k1' : ¬ y = 0 := by omega
  have k2 : ¬ (y : Int) ≤ hi := by omega
  have k2' : ¬ y ≤ hi := by omega
  by_cases hz : hi = 0
  · have hz' : (hi : Int) = 0 := by omega
    simp [k1, k1', k2, k2', hz, hz', hy0]
    have wq : IntKind.u64.wrap ((lo : Int) / (y : Int)) = (lo : Int) / (y : Int) := by
      rw [show ((lo : Int) / (y : Int)) = ((lo / y : Nat) : Int) by omega, bT (Nat.lt_of_le_of_lt (Nat.div_le_self _ _) hlo)]
    rw [wq]
    exact ⟨by decide, _, .data _ (by simp), _, rfl⟩
  · have hz' : ¬ (hi : Int) = 0 := by omega
    obtain ⟨n1, n2, n3, n4, n5⟩ := NS hy0 (by omega)
    have n3 := n3 hy
    obtain ⟨s, hs⟩ : ∃ s, s = 64 - qY y := ⟨_, rfl⟩
    simp [k1, k1', k2, k2', hz, hz', hy0]
    refine ay.pure _ (fun _ => R3 y (by omega)) ?_
    rw [← hs] at n1 n2 n3 ⊢
    have hs64 : s ≤ 64 := by omega
    obtain ⟨v, hv⟩ : ∃ v, v = y * 2 ^ s := ⟨_, rfl⟩
    obtain ⟨u, hu⟩ : ∃ u, u = hi * 2 ^ s + lo / 2 ^ (64 - s) := ⟨_, rfl⟩
    obtain ⟨l, hl⟩ : ∃ l, l = lo * 2 ^ s % 18446744073709551616 := ⟨_, rfl⟩
    obtain ⟨v1, hv1⟩ : ∃ v1, v1 = v / 4294967296 := ⟨_, rfl⟩
    obtain ⟨v0, hv0e⟩ : ∃ v0, v0 = v % 4294967296 := ⟨_, rfl⟩
    obtain ⟨l1, hl1⟩ : ∃ l1, l1 = l / 4294967296 := ⟨_, rfl⟩
    obtain ⟨l0, hl0⟩ : ∃ l0, l0 = l % 4294967296 := ⟨_, rfl⟩
    have huv := (BF hs64 hlo hhi).1
    rw [← hv] at n1 n2
    rw [← hu, ← hv] at huv
    have hlb : l < 18446744073709551616 := by rw [hl]; exact Nat.mod_lt _ (by omega)
    have hv0 : v0 < 4294967296 := by omega
    have hv1b : 2147483648 ≤ v1 := by omega
    have hv1c : v1 < 4294967296 := by omega
    have hl1b : l1 < 4294967296 := by omega
    have hl0b : l0 < 4294967296 := by omega
    have hvv : v = v1 * 4294967296 + v0 := by omega
    have huv' : u < v1 * 4294967296 + v0 := by omega
    have hQ := RL hs64 hlo hhi u l v hu hl hv
    rw [← hl1, ← hl0] at hQ
    have ws : IntKind.u64.wrap (s : Int) = (s : Int) := bT (by omega)
    have w64 : IntKind.u64.wrap ((64 : Int) - (s : Int)) = ((64 - s : Nat) : Int) := by rw [show ((64 : Int) - (s : Int)) = ((64 - s : Nat) : Int) by omega, bT (by omega)]
    have ms : min s 64 = s := by omega
    have ms2 : min (64 - s) 64 = 64 - s := by omega
    have p2 : ∀ k : Nat, ((2 : Int) ^ k) = ((2 ^ k : Nat) : Int) := fun k => by simp
    have hhs : hi * 2 ^ s < 18446744073709551616 := by
      have : hi * 2 ^ s ≤ u := by rw [hu]; exact Nat.le_add_right _ _
      omega
    have hll : lo / 2 ^ (64 - s) < 18446744073709551616 := Nat.lt_of_le_of_lt (Nat.div_le_self _ _) hlo
    have E1 : IntKind.u64.wrap ((y : Int) * 2 ^ s) = (v : Int) := by rw [p2, mulN, ← hv, bT n2]
    have E2 : bits .or .u64 (IntKind.u64.wrap ((hi : Int) * 2 ^ s)) ((lo : Int).fdiv (2 ^ (64 - s))) = (u : Int) := by
      rw [p2, p2, mulN, bT hhs, ← Int.ofNat_fdiv, bits_or_u64_nat _ _ hhs hll, Xu hs64 hlo, ← hu]
    have E3 : IntKind.u64.wrap ((lo : Int) * 2 ^ s) = (l : Int) := by rw [p2, mulN, wrapM, ← hl]
    have F1 : (v : Int).fdiv 4294967296 = (v1 : Int) := by rw [UU, ← hv1]
    have F0 : bits .and .u64 (v : Int) 4294967295 = (v0 : Int) := by rw [maskN v n2, ← hv0e]
    have F2 : (l : Int).fdiv 4294967296 = (l1 : Int) := by rw [UU, ← hl1]
    have F3 : bits .and .u64 (l : Int) 4294967295 = (l0 : Int) := by rw [maskN l hlb, ← hl0]
    have hG0 := oo.start hv1b hv0 hl1b huv'
    obtain ⟨qa, hqa⟩ : ∃ qa, qa = u / v1 := ⟨_, rfl⟩
    obtain ⟨ra, hra⟩ : ∃ ra, ra = u % v1 := ⟨_, rfl⟩
    rw [← hqa, ← hra] at hG0
    have hqb := hG0.le
    have hrb : ra < 4294967296 := by have : ra < v1 := by rw [hra]; exact Nat.mod_lt _ (by omega)
                                     omega
    have hue := hG0.eq
    have G1 : IntKind.u64.wrap ((u : Int) / (v1 : Int)) = (qa : Int) := by rw [show ((u : Int) / (v1 : Int)) = ((u / v1 : Nat) : Int) by omega, ← hqa, bT (by omega)]
    have hqv : qa * v1 ≤ u := by omega
    have G2 : IntKind.u64.wrap ((u : Int) - IntKind.u64.wrap ((qa : Int) * (v1 : Int))) = (ra : Int) := by
      rw [mulN, bT (by omega), show ((u : Int) - ((qa * v1 : Nat) : Int)) = (ra : Int) by omega, bT (by omega)]
    have hv1z : ¬ (v1 : Int) = 0 := by omega
    have hv1z' : ¬ v1 = 0 := by omega
    clear hqa hra
    simp [ws, w64, ms, ms2, E1, E2, E3, F0, F1, F2, F3, G1, G2, hv1z, hv1z']
    obtain ⟨w, hw⟩ : ∃ w, w = (u * 4294967296 + l1) % v := ⟨_, rfl⟩
    have hwv : w < v := by rw [hw]; exact Nat.mod_lt _ (by omega)
    have hwv' : w < v1 * 4294967296 + v0 := by omega
    have hdm := Nat.div_add_mod (u * 4294967296 + l1) v
    rw [← hw] at hdm hQ
    have G3 : ∀ q1 : Nat, q1 = (u * 4294967296 + l1) / (v1 * 4294967296 + v0) → IntKind.u64.wrap (IntKind.u64.wrap (IntKind.u64.wrap ((u : Int) * 4294967296) + (l1 : Int)) - IntKind.u64.wrap ((q1 : Int) * (v : Int))) = (w : Int) := by
      intro q1 h1
      rw [← hvv] at h1
      rw [← h1, Nat.mul_comm] at hdm
      rw [mulN q1 v]
      generalize q1 * v = P at *
      simp only [IntKind.wrap_u64]
      omega
    have hGw := oo.start hv1b hv0 hl0b hwv'
    obtain ⟨qb, hqbb⟩ : ∃ qb, qb = w / v1 := ⟨_, rfl⟩
    obtain ⟨rb, hrb2⟩ : ∃ rb, rb = w % v1 := ⟨_, rfl⟩
    rw [← hqbb, ← hrb2] at hGw
    have hqble := hGw.le
    have hrbb : rb < 4294967296 := by have : rb < v1 := by rw [hrb2]; exact Nat.mod_lt _ (by omega)
                                      omega
    have hwe := hGw.eq
    have hqbv : qb * v1 ≤ w := by omega
    have H1 : IntKind.u64.wrap ((w : Int) / (v1 : Int)) = (qb : Int) := by rw [show ((w : Int) / (v1 : Int)) = ((w / v1 : Nat) : Int) by omega, ← hqbb, bT (by omega)]
    have H2 : IntKind.u64.wrap ((w : Int) - IntKind.u64.wrap ((qb : Int) * (v1 : Int))) = (rb : Int) := by
      rw [mulN, bT (by omega), show ((w : Int) - ((qb * v1 : Nat) : Int)) = (rb : Int) by omega, bT (by omega)]
    have K0 : ∀ q1 : Nat, q1 = (u * 4294967296 + l1) / (v1 * 4294967296 + v0) → ∀ q0 : Nat, q0 = (w * 4294967296 + l0) / (v1 * 4294967296 + v0) → IntKind.u64.wrap (IntKind.u64.wrap ((q1 : Int) * 4294967296) + (q0 : Int)) = ((hi : Int) * 18446744073709551616 + lo) / y := by
      intro q1 h1 q0 h0
      have b1 : q1 < 4294967296 := by rw [h1]; exact uC hl1b huv'
      have b0 : q0 < 4294967296 := by rw [h0]; exact uC hl0b hwv'
      rw [← hvv] at h1 h0
      rw [← h1, ← h0] at hQ
      have e : ((hi : Int) * 18446744073709551616 + lo) / y = (((hi * 18446744073709551616 + lo) / y : Nat) : Int) := by simp
      rw [e, ← hQ]
      simp only [IntKind.wrap_u64]
      omega
    clear hqbb hrb2 hw hdm hQ
    refine aW.down mixed (fun M fr H => fr 2 = .int .u64 v ∧ fr 8 = .int .u64 s ∧ fr 9 = .int .u64 v1 ∧ fr 10 = .int .u64 v0 ∧ fr 11 = .int .u64 u ∧ fr 13 = .int .u64 l1 ∧ fr 14 = .int .u64 l0 ∧ fr 15 = .int .u64 M ∧ ∃ r : Nat, fr 16 = .int .u64 r ∧ oo v1 v0 u l1 M r ∧ r < 4294967296 ∧ ∃ g, H = h ++ g) qa
      ⟨by simp, by simp, by simp, by simp, by simp, by simp, by simp, by simp, ra, by simp, hG0, hrb, [], by simp⟩ ?_
    rintro M fr H ⟨e2, e8, e9, e10, e11, e13, e14, eq, r, er, hG, hr, hB⟩
    have hle := hG.le
    by_cases cA : 4294967296 ≤ M
    · have cA' : (4294967296 : Int) ≤ M := by omega
      obtain ⟨hG2, hM1⟩ := hG.step (by omega) huv' (.inl cA)
      have wq : IntKind.u64.wrap ((M : Int) - 1) = ((M - 1 : Nat) : Int) := by rw [show ((M : Int) - 1) = ((M - 1 : Nat) : Int) by omega, bT (by omega)]
      have wr : IntKind.u64.wrap ((r : Int) + v1) = ((r + v1 : Nat) : Int) := by rw [addN, bT (by omega)]
      by_cases cF : 4294967296 ≤ r + v1
      · have cF' : (4294967296 : Int) ≤ ((r + v1 : Nat) : Int) := by omega
        have hq := hG2.far hv0 huv' (by omega) cF
        have T1 := G3 (M - 1) hq
        have K1 := K0 (M - 1) hq
        have hqlt : (M - 1) < 4294967296 := by rw [hq]; exact uC hl1b huv'
        simp [-Int.natCast_add, -Int.natCast_mul, -Int.natCast_ediv, -Int.natCast_emod, e2, e8, e9, e10, e11, e13, e14, eq, er, cA, cA', wq, wr, cF, cF', T1, H1, H2, hv1z, hv1z']
        refine aW.down mixed (fun M2 fr H => fr 2 = .int .u64 v ∧ fr 8 = .int .u64 s ∧ fr 9 = .int .u64 v1 ∧ fr 10 = .int .u64 v0 ∧ fr 13 = .int .u64 l1 ∧ fr 14 = .int .u64 l0 ∧ fr 15 = .int .u64 ((M - 1) : Nat) ∧ fr 17 = .int .u64 w ∧ fr 18 = .int .u64 M2 ∧ ∃ r : Nat, fr 16 = .int .u64 r ∧ oo v1 v0 w l0 M2 r ∧ r < 4294967296 ∧ ∃ g, H = h ++ g) qb
          ⟨by simp [e2], by simp [e8], by simp [e9], by simp [e10], by simp [e13], by simp [e14], by simp [eq, cA, cA', wq], by simp, by simp, rb, by simp, hGw, hrbb, hB⟩ ?_
        clear eq er hG hr hB hle
        rintro M2 fr H ⟨f2, f8, f9, f10, f13, f14, f15, f17, eq, r, er, hG, hr, hB⟩
        have hle := hG.le
        by_cases c2A : 4294967296 ≤ M2
        · have c2A' : (4294967296 : Int) ≤ M2 := by omega
          obtain ⟨h2G, h2M⟩ := hG.step (by omega) hwv' (.inl c2A)
          have x2q : IntKind.u64.wrap ((M2 : Int) - 1) = ((M2 - 1 : Nat) : Int) := by rw [show ((M2 : Int) - 1) = ((M2 - 1 : Nat) : Int) by omega, bT (by omega)]
          have x2r : IntKind.u64.wrap ((r : Int) + v1) = ((r + v1 : Nat) : Int) := by rw [addN, bT (by omega)]
          by_cases c2F : 4294967296 ≤ r + v1
          · have c2F' : (4294967296 : Int) ≤ ((r + v1 : Nat) : Int) := by omega
            have hq := h2G.far hv0 hwv' (by omega) c2F
            have K := K1 (M2 - 1) hq
            simp [-Int.natCast_add, -Int.natCast_mul, -Int.natCast_ediv, -Int.natCast_emod, f2, f8, f9, f10, f13, f14, f15, f17, eq, er, c2A, c2A', x2q, x2r, c2F, c2F', K, ms, ws]
            exact ⟨hB, _, .data _ (by simp), _, rfl⟩
          · have c2F' : ¬ (4294967296 : Int) ≤ ((r + v1 : Nat) : Int) := by omega
            simp [-Int.natCast_add, -Int.natCast_mul, -Int.natCast_ediv, -Int.natCast_emod, f2, f8, f9, f10, f13, f14, f15, f17, eq, er, c2A, c2A', x2q, x2r, c2F, c2F']
            exact ⟨M2 - 1, by omega, rfl, r + v1, rfl, h2G, by omega, hB⟩
        · have c2A' : ¬ (4294967296 : Int) ≤ M2 := by omega
          obtain ⟨w1, w2⟩ := mf (q1 := M2) (r := r) (v0 := v0) (d := l0) hr (by omega) hv0 c2A
          by_cases c2B : 4294967296 * r + l0 < M2 * v0
          · have c2B' : ((4294967296 * r + l0 : Nat) : Int) < ((M2 * v0 : Nat) : Int) := by omega
            obtain ⟨h2G, h2M⟩ := hG.step (by omega) hwv' (.inr c2B)
            have x2q : IntKind.u64.wrap ((M2 : Int) - 1) = ((M2 - 1 : Nat) : Int) := by rw [show ((M2 : Int) - 1) = ((M2 - 1 : Nat) : Int) by omega, bT (by omega)]
            have x2r : IntKind.u64.wrap ((r : Int) + v1) = ((r + v1 : Nat) : Int) := by rw [addN, bT (by omega)]
            by_cases c2F : 4294967296 ≤ r + v1
            · have c2F' : (4294967296 : Int) ≤ ((r + v1 : Nat) : Int) := by omega
              have hq := h2G.far hv0 hwv' (by omega) c2F
              have K := K1 (M2 - 1) hq
              simp [-Int.natCast_add, -Int.natCast_mul, -Int.natCast_ediv, -Int.natCast_emod, f2, f8, f9, f10, f13, f14, f15, f17, eq, er, c2A, c2A', w1, w2, c2B, c2B', x2q, x2r, c2F, c2F', K, ms, ws]
              exact ⟨hB, _, .data _ (by simp), _, rfl⟩
            · have c2F' : ¬ (4294967296 : Int) ≤ ((r + v1 : Nat) : Int) := by omega
              simp [-Int.natCast_add, -Int.natCast_mul, -Int.natCast_ediv, -Int.natCast_emod, f2, f8, f9, f10, f13, f14, f15, f17, eq, er, c2A, c2A', w1, w2, c2B, c2B', x2q, x2r, c2F, c2F']
              exact ⟨M2 - 1, by omega, rfl, r + v1, rfl, h2G, by omega, hB⟩
          · have c2B' : ¬ ((4294967296 * r + l0 : Nat) : Int) < ((M2 * v0 : Nat) : Int) := by omega
            have hq := hG.done hwv' (by omega)
            have K := K1 M2 hq
            simp [-Int.natCast_add, -Int.natCast_mul, -Int.natCast_ediv, -Int.natCast_emod, f2, f8, f9, f10, f13, f14, f15, f17, eq, er, c2A, c2A', w1, w2, c2B, c2B', K, ms, ws]
            exact ⟨hB, _, .data _ (by simp), _, rfl⟩
      · have cF' : ¬ (4294967296 : Int) ≤ ((r + v1 : Nat) : Int) := by omega
        simp [-Int.natCast_add, -Int.natCast_mul, -Int.natCast_ediv, -Int.natCast_emod, e2, e8, e9, e10, e11, e13, e14, eq, er, cA, cA', wq, wr, cF, cF']
        exact ⟨M - 1, by omega, rfl, r + v1, rfl, hG2, by omega, hB⟩
    · have cA' : ¬ (4294967296 : Int) ≤ M := by omega
      obtain ⟨w1, w2⟩ := mf (q1 := M) (r := r) (v0 := v0) (d := l1) hr (by omega) hv0 cA
      by_cases cB : 4294967296 * r + l1 < M * v0
      · have cB' : ((4294967296 * r + l1 : Nat) : Int) < ((M * v0 : Nat) : Int) := by omega
        obtain ⟨hG2, hM1⟩ := hG.step (by omega) huv' (.inr cB)
        have wq : IntKind.u64.wrap ((M : Int) - 1) = ((M - 1 : Nat) : Int) := by rw [show ((M : Int) - 1) = ((M - 1 : Nat) : Int) by omega, bT (by omega)]
        have wr : IntKind.u64.wrap ((r : Int) + v1) = ((r + v1 : Nat) : Int) := by rw [addN, bT (by omega)]
        by_cases cF : 4294967296 ≤ r + v1
        · have cF' : (4294967296 : Int) ≤ ((r + v1 : Nat) : Int) := by omega
          have hq := hG2.far hv0 huv' (by omega) cF
          have T1 := G3 (M - 1) hq
          have K1 := K0 (M - 1) hq
          have hqlt : (M - 1) < 4294967296 := by rw [hq]; exact uC hl1b huv'
          simp [-Int.natCast_add, -Int.natCast_mul, -Int.natCast_ediv, -Int.natCast_emod, e2, e8, e9, e10, e11, e13, e14, eq, er, cA, cA', w1, w2, cB, cB', wq, wr, cF, cF', T1, H1, H2, hv1z, hv1z']
          refine aW.down mixed (fun M2 fr H => fr 2 = .int .u64 v ∧ fr 8 = .int .u64 s ∧ fr 9 = .int .u64 v1 ∧ fr 10 = .int .u64 v0 ∧ fr 13 = .int .u64 l1 ∧ fr 14 = .int .u64 l0 ∧ fr 15 = .int .u64 ((M - 1) : Nat) ∧ fr 17 = .int .u64 w ∧ fr 18 = .int .u64 M2 ∧ ∃ r : Nat, fr 16 = .int .u64 r ∧ oo v1 v0 w l0 M2 r ∧ r < 4294967296 ∧ ∃ g, H = h ++ g) qb
            ⟨by simp [e2], by simp [e8], by simp [e9], by simp [e10], by simp [e13], by simp [e14], by simp [eq, cA, cA', wq], by simp, by simp, rb, by simp, hGw, hrbb, hB⟩ ?_
          clear eq er hG hr hB hle
          rintro M2 fr H ⟨f2, f8, f9, f10, f13, f14, f15, f17, eq, r, er, hG, hr, hB⟩
          have hle := hG.le
          by_cases c2A : 4294967296 ≤ M2
          · have c2A' : (4294967296 : Int) ≤ M2 := by omega
            obtain ⟨h2G, h2M⟩ := hG.step (by omega) hwv' (.inl c2A)
            have x2q : IntKind.u64.wrap ((M2 : Int) - 1) = ((M2 - 1 : Nat) : Int) := by rw [show ((M2 : Int) - 1) = ((M2 - 1 : Nat) : Int) by omega, bT (by omega)]
            have x2r : IntKind.u64.wrap ((r : Int) + v1) = ((r + v1 : Nat) : Int) := by rw [addN, bT (by omega)]
            by_cases c2F : 4294967296 ≤ r + v1
            · have c2F' : (4294967296 : Int) ≤ ((r + v1 : Nat) : Int) := by omega
              have hq := h2G.far hv0 hwv' (by omega) c2F
              have K := K1 (M2 - 1) hq
              simp [-Int.natCast_add, -Int.natCast_mul, -Int.natCast_ediv, -Int.natCast_emod, f2, f8, f9, f10, f13, f14, f15, f17, eq, er, c2A, c2A', x2q, x2r, c2F, c2F', K, ms, ws]
              exact ⟨hB, _, .data _ (by simp), _, rfl⟩
            · have c2F' : ¬ (4294967296 : Int) ≤ ((r + v1 : Nat) : Int) := by omega
              simp [-Int.natCast_add, -Int.natCast_mul, -Int.natCast_ediv, -Int.natCast_emod, f2, f8, f9, f10, f13, f14, f15, f17, eq, er, c2A, c2A', x2q, x2r, c2F, c2F']
              exact ⟨M2 - 1, by omega, rfl, r + v1, rfl, h2G, by omega, hB⟩
          · have c2A' : ¬ (4294967296 : Int) ≤ M2 := by omega
            obtain ⟨w1, w2⟩ := mf (q1 := M2) (r := r) (v0 := v0) (d := l0) hr (by omega) hv0 c2A
            by_cases c2B : 4294967296 * r + l0 < M2 * v0
            · have c2B' : ((4294967296 * r + l0 : Nat) : Int) < ((M2 * v0 : Nat) : Int) := by omega
              obtain ⟨h2G, h2M⟩ := hG.step (by omega) hwv' (.inr c2B)
              have x2q : IntKind.u64.wrap ((M2 : Int) - 1) = ((M2 - 1 : Nat) : Int) := by rw [show ((M2 : Int) - 1) = ((M2 - 1 : Nat) : Int) by omega, bT (by omega)]
              have x2r : IntKind.u64.wrap ((r : Int) + v1) = ((r + v1 : Nat) : Int) := by rw [addN, bT (by omega)]
              by_cases c2F : 4294967296 ≤ r + v1
              · have c2F' : (4294967296 : Int) ≤ ((r + v1 : Nat) : Int) := by omega
                have hq := h2G.far hv0 hwv' (by omega) c2F
                have K := K1 (M2 - 1) hq
                simp [-Int.natCast_add, -Int.natCast_mul, -Int.natCast_ediv, -Int.natCast_emod, f2, f8, f9, f10, f13, f14, f15, f17, eq, er, c2A, c2A', w1, w2, c2B, c2B', x2q, x2r, c2F, c2F', K, ms, ws]
                exact ⟨hB, _, .data _ (by simp), _, rfl⟩
              · have c2F' : ¬ (4294967296 : Int) ≤ ((r + v1 : Nat) : Int) := by omega
                simp [-Int.natCast_add, -Int.natCast_mul, -Int.natCast_ediv, -Int.natCast_emod, f2, f8, f9, f10, f13, f14, f15, f17, eq, er, c2A, c2A', w1, w2, c2B, c2B', x2q, x2r, c2F, c2F']
                exact ⟨M2 - 1, by omega, rfl, r + v1, rfl, h2G, by omega, hB⟩
            · have c2B' : ¬ ((4294967296 * r + l0 : Nat) : Int) < ((M2 * v0 : Nat) : Int) := by omega
              have hq := hG.done hwv' (by omega)
              have K := K1 M2 hq
              simp [-Int.natCast_add, -Int.natCast_mul, -Int.natCast_ediv, -Int.natCast_emod, f2, f8, f9, f10, f13, f14, f15, f17, eq, er, c2A, c2A', w1, w2, c2B, c2B', K, ms, ws]
              exact ⟨hB, _, .data _ (by simp), _, rfl⟩
        · have cF' : ¬ (4294967296 : Int) ≤ ((r + v1 : Nat) : Int) := by omega
          simp [-Int.natCast_add, -Int.natCast_mul, -Int.natCast_ediv, -Int.natCast_emod, e2, e8, e9, e10, e11, e13, e14, eq, er, cA, cA', w1, w2, cB, cB', wq, wr, cF, cF']
          exact ⟨M - 1, by omega, rfl, r + v1, rfl, hG2, by omega, hB⟩
      · have cB' : ¬ ((4294967296 * r + l1 : Nat) : Int) < ((M * v0 : Nat) : Int) := by omega
        have hq := hG.done huv' (by omega)
        have T1 := G3 M hq
        have K1 := K0 M hq
        have hqlt : M < 4294967296 := by rw [hq]; exact uC hl1b huv'
        simp [-Int.natCast_add, -Int.natCast_mul, -Int.natCast_ediv, -Int.natCast_emod, e2, e8, e9, e10, e11, e13, e14, eq, er, cA, cA', w1, w2, cB, cB', T1, H1, H2, hv1z, hv1z']
        refine aW.down mixed (fun M2 fr H => fr 2 = .int .u64 v ∧ fr 8 = .int .u64 s ∧ fr 9 = .int .u64 v1 ∧ fr 10 = .int .u64 v0 ∧ fr 13 = .int .u64 l1 ∧ fr 14 = .int .u64 l0 ∧ fr 15 = .int .u64 (M : Nat) ∧ fr 17 = .int .u64 w ∧ fr 18 = .int .u64 M2 ∧ ∃ r : Nat, fr 16 = .int .u64 r ∧ oo v1 v0 w l0 M2 r ∧ r < 4294967296 ∧ ∃ g, H = h ++ g) qb
          ⟨by simp [e2], by simp [e8], by simp [e9], by simp [e10], by simp [e13], by simp [e14], by simp [eq, cA, cA'], by simp, by simp, rb, by simp, hGw, hrbb, hB⟩ ?_
        clear eq er hG hr hB hle
        rintro M2 fr H ⟨f2, f8, f9, f10, f13, f14, f15, f17, eq, r, er, hG, hr, hB⟩
        have hle := hG.le
        by_cases c2A : 4294967296 ≤ M2
        · have c2A' : (4294967296 : Int) ≤ M2 := by omega
          obtain ⟨h2G, h2M⟩ := hG.step (by omega) hwv' (.inl c2A)
          have x2q : IntKind.u64.wrap ((M2 : Int) - 1) = ((M2 - 1 : Nat) : Int) := by rw [show ((M2 : Int) - 1) = ((M2 - 1 : Nat) : Int) by omega, bT (by omega)]
          have x2r : IntKind.u64.wrap ((r : Int) + v1) = ((r + v1 : Nat) : Int) := by rw [addN, bT (by omega)]
          by_cases c2F : 4294967296 ≤ r + v1
          · have c2F' : (4294967296 : Int) ≤ ((r + v1 : Nat) : Int) := by omega
            have hq := h2G.far hv0 hwv' (by omega) c2F
            have K := K1 (M2 - 1) hq
            simp [-Int.natCast_add, -Int.natCast_mul, -Int.natCast_ediv, -Int.natCast_emod, f2, f8, f9, f10, f13, f14, f15, f17, eq, er, c2A, c2A', x2q, x2r, c2F, c2F', K, ms, ws]
            exact ⟨hB, _, .data _ (by simp), _, rfl⟩
          · have c2F' : ¬ (4294967296 : Int) ≤ ((r + v1 : Nat) : Int) := by omega
            simp [-Int.natCast_add, -Int.natCast_mul, -Int.natCast_ediv, -Int.natCast_emod, f2, f8, f9, f10, f13, f14, f15, f17, eq, er, c2A, c2A', x2q, x2r, c2F, c2F']
            exact ⟨M2 - 1, by omega, rfl, r + v1, rfl, h2G, by omega, hB⟩
        · have c2A' : ¬ (4294967296 : Int) ≤ M2 := by omega
          obtain ⟨w1, w2⟩ := mf (q1 := M2) (r := r) (v0 := v0) (d := l0) hr (by omega) hv0 c2A
          by_cases c2B : 4294967296 * r + l0 < M2 * v0
          · have c2B' : ((4294967296 * r + l0 : Nat) : Int) < ((M2 * v0 : Nat) : Int) := by omega
            obtain ⟨h2G, h2M⟩ := hG.step (by omega) hwv' (.inr c2B)
            have x2q : IntKind.u64.wrap ((M2 : Int) - 1) = ((M2 - 1 : Nat) : Int) := by rw [show ((M2 : Int) - 1) = ((M2 - 1 : Nat) : Int) by omega, bT (by omega)]
            have x2r : IntKind.u64.wrap ((r : Int) + v1) = ((r + v1 : Nat) : Int) := by rw [addN, bT (by omega)]
            by_cases c2F : 4294967296 ≤ r + v1
            · have c2F' : (4294967296 : Int) ≤ ((r + v1 : Nat) : Int) := by omega
              have hq := h2G.far hv0 hwv' (by omega) c2F
              have K := K1 (M2 - 1) hq
              simp [-Int.natCast_add, -Int.natCast_mul, -Int.natCast_ediv, -Int.natCast_emod, f2, f8, f9, f10, f13, f14, f15, f17, eq, er, c2A, c2A', w1, w2, c2B, c2B', x2q, x2r, c2F, c2F', K, ms, ws]
              exact ⟨hB, _, .data _ (by simp), _, rfl⟩
            · have c2F' : ¬ (4294967296 : Int) ≤ ((r + v1 : Nat) : Int) := by omega
              simp [-Int.natCast_add, -Int.natCast_mul, -Int.natCast_ediv, -Int.natCast_emod, f2, f8, f9, f10, f13, f14, f15, f17, eq, er, c2A, c2A', w1, w2, c2B, c2B', x2q, x2r, c2F, c2F']
              exact ⟨M2 - 1, by omega, rfl, r + v1, rfl, h2G, by omega, hB⟩
          · have c2B' : ¬ ((4294967296 * r + l0 : Nat) : Int) < ((M2 * v0 : Nat) : Int) := by omega
            have hq := hG.done hwv' (by omega)
            have K := K1 M2 hq
            simp [-Int.natCast_add, -Int.natCast_mul, -Int.natCast_ediv, -Int.natCast_emod, f2, f8, f9, f10, f13, f14, f15, f17, eq, er, c2A, c2A', w1, w2, c2B, c2B', K, ms, ws]
            exact ⟨hB, _, .data _ (by simp), _, rfl⟩
end Go.Proofs.YtkpioblbeiaefaaGreat
end
