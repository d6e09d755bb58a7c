/- Part 26 of the lemmas below the statements of this seat: PassC, TollAw21. -/
import Derived.Test.YtkpioblbeiaefaaGreatPe24
import Derived.Test.YtkpioblbeiaefaaGreatPe25
set_option linter.unusedSectionVars false
set_option linter.unusedVariables false
set_option linter.unusedSimpArgs false
set_option linter.unnecessarySimpa false
set_option maxRecDepth 100000
section
namespace Go.Proofs.YtkpioblbeiaefaaGreat
open Go Go.Abs Go.Toll
variable {gl : aM} {h : ae}
theorem Qd {n:Int} (h1:0≤n)(h2:n<256):IntKind.u8.wrap n=n:=by
 unfold IntKind.wrap;simp [IntKind.bits,IntKind.signed];omega
theorem Vz (c:UInt8):c.toNat<256:=c.toNat_lt
theorem VA {d:Nat} (h:d<256):(UInt8.ofNat d).toNat=d:=by simp;omega
set_option maxHeartbeats 4000000 in
theorem FM (s:Bytes)(hs:s.length≤2000000):aa Tryz.prog gl 63 [.str s] h fun v h'=>v= .tup [.str (vV s).1,.int .i64 (vV s).2]∧h'=h:=by
 refine aa.data (by simp) (aa.body Tryz.f63 _ mixed Tryz.func63 rfl rfl (by simp [Tryz.ntmps63]) ?_);simp;refine aT.up mixed s.length (fun i fr H=>fr 0= .str s∧fr 5= .int .i64 i∧(∃g,H=h++g)∧ ∃acc:Bytes,tN s=(tN (s.drop i)).map (fun l=>acc++l)∧acc.length≤i∧ ∃y,fr 4=y∧Ls 1 h.length H y (acc.map iH)) 0 (by omega)
  ⟨by simp,by simp,⟨[],by simp⟩,[],by simp,by simp,.nil,by simp,by simpa using Ls.nil⟩ ?_
 rintro i fr H hi ⟨e0,e5,hB,acc,hN,hal,y,e4,hy⟩;have hyf:=hy.rs.fix;have hyl:=hy.rs.len2;have hlB:=cu hB;rcases zN i s.length with hlt | hge
 ·obtain⟨c,hc,hc'⟩:=aN hlt;have ew:=aC (i:=i) (by omega);have hltI:(i:Int)<s.length:=by omega
  have hc256:=Vz c;rw [bv hc,tN] at hN;by_cases k1:c.toNat=32∨c.toNat=45
  ·rw [if_pos k1] at hN;have fin: ∃k',i<k'∧k'≤s.length∧i+1=k':=⟨i+1,by omega,by omega,rfl⟩;rcases k1 with k1 | k1
   ·have k1':(c.toNat:Int)=32:=by omega
    simp [au,e0,e4,e5,hlt,hltI,hc,hc',k1,k1',ew];exact⟨i+1,by omega,by omega,by omega,hB,acc,hN,by omega,hy⟩
   ·have k1':(c.toNat:Int)=45:=by omega
    simp [au,e0,e4,e5,hlt,hltI,hc,hc',k1,k1',ew];exact⟨i+1,by omega,by omega,by omega,hB,acc,hN,by omega,hy⟩
  ·rw [if_neg k1] at hN;have n1: ¬(c.toNat:Int)=32:=by omega
   have n2: ¬(c.toNat:Int)=45:=by omega
   have n1': ¬c.toNat=32:=by omega
   have n2': ¬c.toNat=45:=by omega
   obtain⟨d,hd⟩: ∃d,RU c.toNat=d:=⟨_,rfl⟩;rw [hd] at hN;have hd256:d<256:=by rw [←hd];unfold RU;split <;> omega
   have step: ∀(fr':aH),True:=fun _=>trivial;by_cases k2:okB d=true
   ·rw [if_pos k2] at hN;have hN2:tN s=(tN (s.drop (i+1))).map (fun l=>(acc++[UInt8.ofNat d])++l):=by rw [hN,Option.map_map];congr 1;funext l;simp
    have hdm:(d:Int) % 256=d:=by omega
    have hd2:(((UInt8.ofNat d).toNat:Nat):Int)=d:=by rw [VA hd256]
    by_cases k3:97≤c.toNat∧c.toNat≤122
    ·have hdc:d=c.toNat - 32:=by rw [←hd,RU,if_pos k3]
     have wd:IntKind.u8.wrap ((c.toNat:Int) - 32)=d:=by rw [Qd (by omega) (by omega)];omega
     have a1:(97:Int)≤c.toNat:=by omega
     have a2:(c.toNat:Int)≤122:=by omega
     have a1':97≤c.toNat:=k3.1;have a2':c.toNat≤122:=k3.2;have b1:(65:Int)≤d:=by omega
     have b2:(d:Int)≤90:=by omega
     have b1':65≤d:=by omega
     have b2':d≤90:=by omega
     simp [au,-ak,-av,-ai,-AV.solid,e0,e4,e5,hlt,hltI,hc,hc',n1,n2,n1',n2',a1,a2,a1',a2',wd,b1,b2,b1',b2',hyf];refine aO (lo:=h.length) (n:=1) (es:=acc.map iH) (ys:=[iH (UInt8.ofNat d)]) (by simpa [iH,hdm] using hy.more _) (by simp;omega) (by simp [bF,iH,hdm]) (by simp;omega) ?_;intro s1 H1 hs1 hg1 hn1;have hs1f:=hs1.rs.fix;have hB1:=hg1.base h (by omega) (aF hB _);simp [-ak,-av,-ai,-AV.solid,e0,e4,e5,hs1f,ew];exact⟨i+1,by omega,by omega,by omega,hB1,acc++[UInt8.ofNat d],hN2,by simp;omega,by simpa using hs1⟩
    ·have hdc:d=c.toNat:=by rw [←hd,RU,if_neg k3]
     subst hdc;have hk:(97:Int)≤c.toNat→ ¬(c.toNat:Int)≤122:=by omega
     have hko:=k2;simp only [okB,Bool.or_eq_true,decide_eq_true_eq] at hko;by_cases a1:97≤c.toNat
     ·omega
     ·have a1': ¬(97:Int)≤c.toNat:=by omega
      have app:bF Tryz.prog (H++[.cells 1 [iH (UInt8.ofNat c.toNat)]]) [135,135] 1 (.own H.length 0 1) [iH (UInt8.ofNat c.toNat)]:=by simp [bF,iH]
      have hfin: ∀s1 H1,Ls 1 h.length H1 s1 (acc.map iH++[iH (UInt8.ofNat c.toNat)])→Ls 1 h.length H1 s1 ((acc++[UInt8.ofNat c.toNat]).map iH):=fun s1 H1 hh=>by simpa using hh
      rcases hko with⟨b1,b2⟩ | ⟨b1,b2⟩
      ·have b1':(65:Int)≤c.toNat:=by omega
       have b2':(c.toNat:Int)≤90:=by omega
       simp [au,-ak,-av,-ai,-AV.solid,e0,e4,e5,hlt,hltI,hc,hc',n1,n2,n1',n2',a1,a1',b1,b2,b1',b2',hyf];refine aO (lo:=h.length) (n:=1) (es:=acc.map iH) (ys:=[iH (UInt8.ofNat c.toNat)]) (by simpa [iH,hd2] using hy.more _) (by simp;omega) (by simp [bF,iH]) (by simp;omega) ?_;intro s1 H1 hs1 hg1 hn1;have hs1f:=hs1.rs.fix;have hB1:=hg1.base h (by omega) (aF hB _);simp [-ak,-av,-ai,-AV.solid,e0,e4,e5,hs1f,ew];exact⟨i+1,by omega,by omega,by omega,hB1,acc++[UInt8.ofNat c.toNat],hN2,by simp;omega,hfin _ _ hs1⟩
      ·have b0: ¬65≤c.toNat:=by omega
       have b0': ¬(65:Int)≤c.toNat:=by omega
       have b1':(48:Int)≤c.toNat:=by omega
       have b2':(c.toNat:Int)≤57:=by omega
       simp [au,-ak,-av,-ai,-AV.solid,e0,e4,e5,hlt,hltI,hc,hc',n1,n2,n1',n2',a1,a1',b0,b0',b1,b2,b1',b2',hyf];refine aO (lo:=h.length) (n:=1) (es:=acc.map iH) (ys:=[iH (UInt8.ofNat c.toNat)]) (by simpa [iH,hd2] using hy.more _) (by simp;omega) (by simp [bF,iH]) (by simp;omega) ?_;intro s1 H1 hs1 hg1 hn1;have hs1f:=hs1.rs.fix;have hB1:=hg1.base h (by omega) (aF hB _);simp [-ak,-av,-ai,-AV.solid,e0,e4,e5,hs1f,ew];exact⟨i+1,by omega,by omega,by omega,hB1,acc++[UInt8.ofNat c.toNat],hN2,by simp;omega,hfin _ _ hs1⟩
   ·rw [if_neg k2] at hN;have hV:vV s=([],19):=by rw [vV,hN];rfl
    rw [hV];have hko:=k2;simp only [okB,Bool.or_eq_true,decide_eq_true_eq,not_or] at hko;have k3: ¬(97≤c.toNat∧c.toNat≤122):=fun k3=>by
     have hdc:d=c.toNat - 32:=by rw [←hd,RU,if_pos k3]
     omega
    have hdc:d=c.toNat:=by rw [←hd,RU,if_neg k3]
    subst hdc;have fin: ∀b1 b2 b3 b4 b5 b6:Bool,True:=fun _ _ _ _ _ _=>trivial;by_cases a1:97≤c.toNat
    ·have a1':(97:Int)≤c.toNat:=by omega
     have a2: ¬c.toNat≤122:=by omega
     have a2': ¬(c.toNat:Int)≤122:=by omega
     have b1:65≤c.toNat:=by omega
     have b1':(65:Int)≤c.toNat:=by omega
     have b2: ¬c.toNat≤90:=by omega
     have b2': ¬(c.toNat:Int)≤90:=by omega
     have b3:48≤c.toNat:=by omega
     have b3':(48:Int)≤c.toNat:=by omega
     have b4: ¬c.toNat≤57:=by omega
     have b4': ¬(c.toNat:Int)≤57:=by omega
     simp [au,e0,e4,e5,hlt,hltI,hc,hc',n1,n2,n1',n2',a1,a1',a2,a2',b1,b1',b2,b2',b3,b3',b4,b4'];exact hB
    ·have a1': ¬(97:Int)≤c.toNat:=by omega
     by_cases b1:65≤c.toNat
     ·have b1':(65:Int)≤c.toNat:=by omega
      have b2: ¬c.toNat≤90:=by omega
      have b2': ¬(c.toNat:Int)≤90:=by omega
      have b3:48≤c.toNat:=by omega
      have b3':(48:Int)≤c.toNat:=by omega
      have b4: ¬c.toNat≤57:=by omega
      have b4': ¬(c.toNat:Int)≤57:=by omega
      simp [au,e0,e4,e5,hlt,hltI,hc,hc',n1,n2,n1',n2',a1,a1',b1,b1',b2,b2',b3,b3',b4,b4'];exact hB
     ·have b1': ¬(65:Int)≤c.toNat:=by omega
      by_cases b3:48≤c.toNat
      ·have b3':(48:Int)≤c.toNat:=by omega
       have b4: ¬c.toNat≤57:=by omega
       have b4': ¬(c.toNat:Int)≤57:=by omega
       simp [au,e0,e4,e5,hlt,hltI,hc,hc',n1,n2,n1',n2',a1,a1',b1,b1',b3,b3',b4,b4'];exact hB
      ·have b3': ¬(48:Int)≤c.toNat:=by omega
       simp [au,e0,e4,e5,hlt,hltI,hc,hc',n1,n2,n1',n2',a1,a1',b1,b1',b3,b3'];exact hB
 ·obtain rfl:i=s.length:=by omega
  rw [zH (Nat.le_refl _)] at hN;have hN':tN s=some acc:=by rw [hN];simp [tN]
  have hV:vV s=if acc.length<2∨10<acc.length then ([],19) else (acc,0):=by rw [vV,hN']
  rw [hV];by_cases c1:acc.length<2
  ·have c1':(acc.length:Int)<2:=by omega
   have c1l:(acc.length:Int)≤1:=by omega
   simp [au,e0,e4,e5,hyf,hyl,c1,c1',c1l];exact hB
  ·have c1': ¬(acc.length:Int)<2:=by omega
   have c1l:(2:Int)≤acc.length:=by omega
   by_cases c2:10<acc.length
   ·have c2':(10:Int)<acc.length:=by omega
    simp [au,e0,e4,e5,hyf,hyl,c1,c1',c1l,c2,c2'];exact hB
   ·have c2': ¬(10:Int)<acc.length:=by omega
    have c2l:(acc.length:Int)≤10:=by omega
    rcases hy.1 with⟨_,he⟩ | ⟨b,rfl,hlb,hb⟩
    ·have:acc=[]:=by simpa using he
     rw [this] at c1;simp at c1
    ·have hb3:=at3 hb;simp [au,e0,e4,e5,hyl,c1,c1',c1l,c2,c2',c2l,hb3];exact⟨acc,zG (by simp),rfl,hB⟩
theorem Q8 (ev:Bool) {c:Nat} (h1:48≤c)(h2:c≤57):0≤yC ev c∧yC ev c≤9:=by
 unfold yC;cases ev <;> simp <;> split <;> omega
set_option maxHeartbeats 2000000 in
theorem Na (s:Bytes)(hs:s.length≤1000):aa Tryz.prog gl 96 [.str s] h fun v h'=>v= .int .i64 (Ga true 0 s)∧h'=h:=by
 refine aa.data (by simp) (aa.body Tryz.f96 _ mixed Tryz.func96 rfl rfl (by simp [Tryz.ntmps96]) ?_);simp;refine aT.up mixed s.length (fun i fr H=>fr 0= .str s∧fr 4= .int .i64 i∧(∃n:Int,fr 3= .int .i64 n∧0≤n∧n≤9*i∧Ga true 0 s=Ga (decide (i % 2=0)) n (s.drop i))∧h=H) 0 (by omega)
  ⟨by simp,by simp,⟨0,by simp,by omega,by omega,by simp⟩,rfl⟩ ?_
 rintro i fr H hi ⟨e0,e4,⟨n,e3,hn0,hn1,hf⟩,rfl⟩;rcases zN i s.length with hlt | hge
 ·obtain⟨c,hc,hc'⟩:=aN hlt;have ew:=aC (i:=i) (by omega);have hltI:(i:Int)<s.length:=by omega
  rw [bv hc,Ga] at hf;rw [hf];by_cases c1:c.toNat<48
  ·have c1':(c.toNat:Int)<48:=by omega
   rw [if_pos (.inl c1)];simp [au,e0,e3,e4,hlt,hltI,hc,hc',c1,c1']
  ·have c1': ¬(c.toNat:Int)<48:=by omega
   have c1l:(48:Int)≤c.toNat:=by omega
   have c1n:48≤c.toNat:=by omega
   by_cases c2:57<c.toNat
   ·have c2':(57:Int)<c.toNat:=by omega
    rw [if_pos (.inr c2)];simp [au,e0,e3,e4,hlt,hltI,hc,hc',c1,c1',c1l,c1n,c2,c2']
   ·have c2': ¬(57:Int)<c.toNat:=by omega
    have c2l:(c.toNat:Int)≤57:=by omega
    have c2n:c.toNat≤57:=by omega
    rw [if_neg (by omega)];rw [if_neg (by omega)] at hf;have w1:IntKind.u8.wrap ((c.toNat:Int) - 48)=(c.toNat:Int) - 48:=Qd (by omega) (by omega);have w2:IntKind.i64.wrap ((c.toNat:Int) - 48)=(c.toNat:Int) - 48:=aD (by omega) (by omega);have w3:IntKind.i64.wrap (2*((c.toNat:Int) - 48))=2*((c.toNat:Int) - 48):=aD (by omega) (by omega);have hb:=Q8 (decide (i % 2=0)) c1n c2n;have w4:IntKind.i64.wrap (n+yC (decide (i % 2=0)) c.toNat)=n+yC (decide (i % 2=0)) c.toNat:=aD (by omega) (by omega);have hpar:(!decide (i % 2=0))=decide ((i+1) % 2=0):=by
     rw [Bool.eq_iff_iff];simp;omega
    have hrem:((i:Int).tmod 2=0)=(i % 2=0):=by
     rw [Int.tmod_eq_emod_of_nonneg (by omega)];apply propext;omega
    rw [hpar] at hf ⊢;have fin: ∃k',i<k'∧k'≤s.length∧((i+1:Nat):Int)=(k':Int):=⟨i+1,by omega,by omega,rfl⟩;generalize hc64:(c.toNat:Int)=C at*;by_cases d1:i % 2=0
    ·by_cases d2:9<2*(C - 48)
     ·have hd:yC (decide (i % 2=0)) c.toNat=2*(C - 48) - 9:=by unfold yC;rw [hc64];simp [d1,d2]
      have w5:IntKind.i64.wrap (2*(C - 48) - 9)=2*(C - 48) - 9:=aD (by omega) (by omega);rw [hd] at w4 hf hb ⊢;simp [au,e0,e3,e4,hlt,hltI,hc,hc',c1,c1',c1l,c1n,c2,c2',c2l,c2n,hc64,w1,w2,w3,hrem,d1,d2,w5,w4,ew];exact⟨i+1,by omega,by omega,by omega,by omega,by omega,by simpa using hf.symm.trans (by rw [hf])⟩
     ·have hd:yC (decide (i % 2=0)) c.toNat=2*(C - 48):=by unfold yC;rw [hc64];simp [d1,d2]
      rw [hd] at w4 hf hb ⊢;simp [au,e0,e3,e4,hlt,hltI,hc,hc',c1,c1',c1l,c1n,c2,c2',c2l,c2n,hc64,w1,w2,w3,hrem,d1,d2,w4,ew];exact⟨i+1,by omega,by omega,by omega,by omega,by omega,by simpa using hf.symm.trans (by rw [hf])⟩
    ·have d2: ¬9<C - 48:=by omega
     have hd:yC (decide (i % 2=0)) c.toNat=C - 48:=by unfold yC;rw [hc64];simp [d1,d2]
     rw [hd] at w4 hf hb ⊢;simp [au,e0,e3,e4,hlt,hltI,hc,hc',c1,c1',c1l,c1n,c2,c2',c2l,c2n,hc64,w1,w2,w3,hrem,d1,d2,w4,ew];exact⟨i+1,by omega,by omega,by omega,by omega,by omega,by simpa using hf.symm.trans (by rw [hf])⟩
 ·have hge': ¬(i:Int)<s.length:=by omega
  rw [zH hge,Ga] at hf;simp [e0,e3,e4,hge',hf,Nat.not_lt.2 hge]
theorem Im (s:Bytes):aa Tryz.prog gl 62 [.str s] h fun v h'=>v= .int .i64 (IK s)∧h'=h:=by
 refine aa.data (by simp) (aa.body Tryz.f62 _ mixed Tryz.func62 rfl rfl (by simp [Tryz.ntmps62]) ?_);unfold IK;by_cases c1:s.length=12
 ·have c1':(s.length:Int)=12:=by omega
  rw [if_neg (by simpa using c1)];simp [c1,c1'];refine ax.pure _ (fun _=>Na s (by omega)) ?_;generalize Ga true 0 s=n;by_cases c2:n<0
  ·simp [au,c2]
  ·by_cases c3:n.tmod 10=0 <;> simp [au,c2,c3]
 ·have c1': ¬(s.length:Int)=12:=by omega
  rw [if_pos c1];simp [c1,c1']
theorem Qy {d:Nat} (h:d<10):(([48,49,50,51,52,53,54,55,56,57]:Bytes).take (d+1)).drop d=[UInt8.ofNat (48+d)]:=by
 have: ∀d:Fin 10,(([48,49,50,51,52,53,54,55,56,57]:Bytes).take (d.val+1)).drop d.val=[UInt8.ofNat (48+d.val)]:=by decide
 exact this ⟨d,h⟩
set_option maxHeartbeats 2000000 in
theorem FK (n:Nat)(hn:n≤2147483648):aa Tryz.prog gl 98 [.int .i64 n] h fun v h'=>v= .str (CF n)∧h'=h:=by
 refine aa.data (by simp) (aa.body Tryz.f98 _ mixed Tryz.func98 rfl rfl (by simp [Tryz.ntmps98]) ?_);by_cases c0:n=0
 ·subst c0;simp [CF]
 ·have hM:CF n=wZ n:=by rw [CF,if_neg c0]
  rw [hM];have c0': ¬(n:Int)=0:=by omega
  have hneg: ¬(n:Int)<0:=by omega
  have hneg':(0:Int)≤n:=by omega
  simp [c0,c0'];refine aT.down mixed (fun m fr H=>fr 0= .int .i64 n∧fr 4= .int .i64 m∧(∃s:Bytes,fr 3= .str s∧wZ n=wZ m++s∧s.length+m≤n)∧h=H) n
   ⟨by simp,by simp,⟨[],by simp,by simp,by simp⟩,rfl⟩ ?_
  rintro m fr H ⟨e0,e4,⟨s,e3,hf,hsl⟩,rfl⟩;by_cases c1:m=0
  ·subst c1;rw [nZ,List.nil_append] at hf;simp [e0,e3,e4,hneg,hneg',hf]
  ·have c1': ¬(m:Int)=0:=by omega
   have hr:(m:Int).tmod 10=((m % 10:Nat):Int):=by rw [Int.tmod_eq_emod_of_nonneg (by omega)];omega
   have hq:(m:Int).tdiv 10=((m / 10:Nat):Int):=by rw [Int.tdiv_eq_ediv_of_nonneg (by omega)];omega
   have wq:IntKind.i64.wrap ((m / 10:Nat):Int)=((m / 10:Nat):Int):=aD (by omega) (by omega);have hd10:m % 10<10:=Nat.mod_lt _ (by omega);have hdc:=Qy hd10;rw [vK c1] at hf;have hdv:m / 10<m:=by omega
   generalize m / 10=Q at*;generalize m % 10=D at*;have w1:IntKind.i64.wrap ((D:Int)+1)=((D+1:Nat):Int):=by rw [aD (by omega) (by omega)];omega
   have hD0: ¬(D:Int)<0:=by omega
   have hD0':(0:Int)≤D:=by omega
   have hD9:D+1≤10:=by omega
   have hD9I:((D:Int)+1)≤10:=by omega
   have hT1:((D:Int)+1).toNat=D+1:=by omega
   have hsx:s.length+1≤9223372036854775807:=by omega
   simp [-Int.natCast_add,au,e0,e3,e4,c1,c1',hr,hq,wq,w1,hD0,hD0',hD9,hD9I,hT1];have hdc2:List.drop D (48::List.take D [49,50,51,52,53,54,55,56,57])=[UInt8.ofNat (48+D)]:=by rw [←hdc,List.take_succ_cons]
   refine⟨by omega,by omega,Q,by omega,rfl,?_,by omega⟩;rw [hdc2,hf,zK]
theorem PD (p:aA)(hp:p.Ok)(h0: ∀s∈p.srcs,s.dev.length≤100∧0≤s.seq∧s.seq≤2147483648):aa Tryz.prog gl 65 [.agg (aj p)] h fun v h'=>v= .str (Qg p)∧h'=h:=by
 refine aa.data (by simp) (aa.body Tryz.f65 _ mixed Tryz.func65 rfl rfl (by simp [Tryz.ntmps65]) ?_);have hsr:=hp.src;unfold Qg
 cases hs:p.srcs with
 | nil=>
  rw [hs] at hsr;simp [aj,hsr]
 | cons a r=>
  have ha:=h0 a (by rw [hs];simp);rw [hs] at hsr;obtain⟨n,hn⟩: ∃n:Nat,a.seq=n:=⟨a.seq.toNat,by omega⟩;have hl: ¬((r.length:Int)+1=0):=by omega
  have hf:(CF n).length≤1000000000000:=by
   have hb: ∀n:Nat,(wZ n).length≤n:=by
    intro n
    induction n using Nat.strongRecOn with
    | _ n ih=>
     by_cases c:n=0
     ·subst c;rw [nZ];simp
     ·rw [vK c,List.length_append];have:=ih (n / 10) (by omega);simp;omega
   have:=hb n;unfold CF;split
   ·simp
   ·omega
  have hl1:a.dev.length≤9223372036854775806:=by omega
  have hl2:a.dev.length+1+(CF n).length≤9223372036854775807:=by omega
  simp [aj,hsr,bL,hl,hn,hl1];refine⟨by decide,?_⟩;refine ax.pure _ (fun _=>FK n (by omega)) ?_;simp [hl2]
def Vv (l:List jk)(i:Nat)(s:jk):Int:=if dZ s.dev=false then 6 else if s.seq<0∨2147483648<s.seq then 2 else if i=0 then 0 else match l[i - 1]? with
  | none=>0
  | some r=>if 0≤dU r s then 15 else 0
set_option maxHeartbeats 1000000 in
theorem pI (l:List jk)(i:Nat) {s:jk} (hs:l[i]? =some s)(hl:l.length≤1000000)(hd: ∀s∈l,iC s.dev):aa Tryz.prog gl 64 [.ro (l.map bL),.int .i64 i] h fun v h'=>v= .int .i64 (nI l i)∧h'=h:=by
 refine aa.data (by simp) (aa.body Tryz.f64 _ mixed Tryz.func64 rfl rfl (by simp [Tryz.ntmps64]) ?_);have hG:nI l i=Vv l i s:=by rw [nI,hs];rfl
 rw [hG];have hlt:=aK hs;have hs':=(zA.1 hs).2;unfold Vv;simp [bL,hs,hs',hlt];refine ax.pure _ (fun _=>pG s.dev) ?_
 cases hn:dZ s.dev with
 | false=>simp [au,bL,hs,hs',hlt]
 | true=>
  by_cases c1:s.seq<0
  ·simp [au,bL,hs,hs',hlt,c1]
  by_cases c2:2147483648<s.seq
  ·simp [au,bL,hs,hs',hlt,c1,c2]
  cases i with
  | zero=>
   simp [au,bL,hs,hs',hlt,c1,c2];refine⟨by decide,?_⟩;refine ax.pure (.int .i64 0) (fun c=>by cases c) ?_;simp [au]
  | succ j=>
   obtain⟨r,hr,hr'⟩:=aN (l:=l) (i:=j) (by omega);have hjl:j<l.length:=by omega
   have w2:IntKind.i64.wrap (((j+1:Nat):Int) - 1)=(j:Int):=by rw [aD (by omega) (by omega)];omega
   have hjp:(0:Int)<((j+1:Nat):Int):=by omega
   simp [-Int.natCast_add,au,bL,hs,hs',hlt,c1,c2,hr,hr',hjl,w2,hjp];refine⟨by decide,?_⟩;refine ax.pure _ (fun _=>by simpa [bL] using CW r s (hd r (zF hr))) ?_;by_cases c3:0≤dU r s <;> simp [au,c3]
set_option maxHeartbeats 2000000 in
theorem Ip (n:bg)(p:aA)(hp:p.Ok)(hsl:p.srcs.length≤1000000)(hpl:p.plate.length≤2000000)(hnp:n.pts.length≤1000)(hnl:n.lks.length≤1000):
  aa Tryz.prog gl 31 [.agg (aj p),.agg (dB n)] h fun v h'=>v= .int .i64 (rz n p)∧h'=h:=by
 refine aa.data (by simp) (aa.body Tryz.f31 _ mixed Tryz.func31 rfl rfl (by simp [Tryz.ntmps31]) ?_);have hsr:=hp.src;have F:=fun H:ae=>mH (gl:=gl) (h:=H) n p.point hnp hnl;have T:=fun H:ae=>FL (gl:=gl) (h:=H) p.time;have C:=fun H:ae=>Im (gl:=gl) (h:=H) p.tag;have NV:=fun H:ae=>FM (gl:=gl) (h:=H) p.plate hpl;have ID:=fun (H:ae) h0=>PD (gl:=gl) (h:=H) p hp h0;obtain⟨NB,NE,hNV⟩: ∃NB NE,vV p.plate=(NB,NE):=⟨_,_,rfl⟩;rw [hNV] at NV;obtain⟨E,hE⟩: ∃E,rz n p=E:=⟨_,rfl⟩;have hE':=hE;unfold rz at hE';rw [hNV] at hE';rw [hE];simp [aj,dB];refine ax.pure _ (fun _=>F _) ?_;by_cases k1:(bS n p.point).isSome=false
 ·rw [if_pos k1] at hE';subst hE';simp [k1]
 have k1':(bS n p.point).isSome=true:=by
  cases hk:(bS n p.point).isSome with
  | true=>rfl
  | false=>exact absurd hk k1
 rw [if_neg k1] at hE';simp [aj,k1'];refine ax.pure _ (fun _=>T _) ?_;by_cases k2:bE p.time=false
 ·rw [if_pos k2] at hE';subst hE';simp [k2]
 have k2':bE p.time=true:=by simpa using k2
 rw [if_neg k2] at hE';by_cases k3:p.tag=[]∧p.plate=[]
 ·rw [if_pos k3] at hE';subst hE';obtain⟨c1,c2⟩:=k3;simp [au,aj,k2',c1,c2]
 rw [if_neg k3] at hE';by_cases t1:p.tag=[]
 ·have t2: ¬p.plate=[]:=fun e=>k3 ⟨t1,e⟩;rw [if_neg (fun e=>e.1 t1)] at hE';simp [au,aj,k2',t1,t2];refine ax.pure (.int .i64 0) (fun c=>by cases c) ?_;simp [au,aj,k2',t1,t2];refine ax.pure _ (fun _=>NV _) ?_;by_cases u1:NE=0
  ·by_cases u2:NB=p.plate
   ·rw [if_neg (fun e=>by rcases e.2 with e | e;exact e u1;exact e u2)] at hE';by_cases n6:p.cls<0∨9<p.cls
    ·rw [if_pos n6] at hE';subst hE';by_cases v1:p.cls<0
     ·simp [au,aj,k2',t1,t2,u1,u2,v1]
     ·have v2:9<p.cls:=by omega
      simp [au,aj,k2',t1,t2,u1,u2,v1,v2]
    rw [if_neg n6] at hE';have v1: ¬p.cls<0:=by omega
    have v2: ¬9<p.cls:=by omega
    have v1':0≤p.cls:=by omega
    have v2':p.cls≤9:=by omega
    by_cases n7:p.score<0∨1000<p.score
    ·rw [if_pos n7] at hE';subst hE';by_cases w1:p.score<0
     ·simp [au,aj,k2',t1,t2,u1,u2,v1,v2,v1',v2',w1]
     ·have w2:1000<p.score:=by omega
      simp [au,aj,k2',t1,t2,u1,u2,v1,v2,v1',v2',w1,w2]
    rw [if_neg n7] at hE';have w1: ¬p.score<0:=by omega
    have w2: ¬1000<p.score:=by omega
    have w1':0≤p.score:=by omega
    have w2':p.score≤1000:=by omega
    by_cases n8:p.srcs.length<1∨24<p.srcs.length
    ·rw [if_pos n8] at hE';subst hE';by_cases x1:p.srcs.length<1
     ·have x0:p.srcs=[]:=List.eq_nil_of_length_eq_zero (by omega);simp [au,aj,k2',t1,t2,u1,u2,v1,v2,v1',v2',w1,w2,w1',w2',hsr,x0]
     ·have x2:24<p.srcs.length:=by omega
      have x3: ¬(p.srcs.length:Int)<1:=by omega
      have x4:(24:Int)<p.srcs.length:=by omega
      have x5: ¬p.srcs=[]:=fun e=>by rw [e] at x1;exact x1 (by decide)
      simp [au,aj,k2',t1,t2,u1,u2,v1,v2,v1',v2',w1,w2,w1',w2',hsr,x2,x3,x4,x5]
    rw [if_neg n8] at hE';have x3: ¬(p.srcs.length:Int)<1:=by omega
    have x3':(1:Int)≤p.srcs.length:=by omega
    have x4: ¬(24:Int)<p.srcs.length:=by omega
    have x4':(p.srcs.length:Int)≤24:=by omega
    have x5: ¬p.srcs=[]:=fun e=>by rw [e] at n8;exact n8 (.inl (by decide))
    have x6: ¬24<p.srcs.length:=by omega
    simp [au,aj,k2',t1,t2,u1,u2,v1,v2,v1',v2',w1,w2,w1',w2',hsr,x3,x3',x4,x4',x5,x6];refine aT.up mixed p.srcs.length (fun i fr H=>fr 2= .ptr h.length 0 0∧fr 9= .int .i64 i∧ll p.srcs=df (((List.range p.srcs.length).map (nI p.srcs)).drop i)∧H[h.length]? =some (.cells 8 [aj p])∧ ∃g,H=h++g) 0 (by omega)
     ⟨by simp,by simp,by simp [ll],by simp [au,aj,k2',t1,t2,u1,u2,hsr],_,rfl⟩ ?_
    rintro i fr H hi ⟨e2,e9,hf,hX,hB⟩;have hX3:=at3 hX;simp only [aj,hsr] at hX3;rcases zN i p.srcs.length with hlt | hge
    ·obtain⟨s,hs,hs'⟩:=aN hlt;have ew:=aC (i:=i) (by omega);have hltI:(i:Int)<p.srcs.length:=by omega
     have hst:=oO (l:=(List.range p.srcs.length).map (nI p.srcs)) (i:=i) (x:=nI p.srcs i) (by simp [hlt]);simp [e2,e9,hX3,hlt,hltI];refine ax.pure _ (fun _=>pI p.srcs i hs hsl (fun s hs=>hp.dev s hs)) ?_;by_cases y1:nI p.srcs i=0
     ·rw [if_neg (by simpa using y1)] at hst;simp [e2,e9,y1,ew];exact⟨i+1,by omega,by omega,by omega,hf.trans hst,hX,hB⟩
     ·rw [if_pos y1] at hst;have y2:ll p.srcs=nI p.srcs i:=hf.trans hst;rw [if_pos (by rw [y2];exact y1),y2] at hE';subst hE';simp [e2,e9,y1];exact hB
    ·obtain rfl:i=p.srcs.length:=by omega
     rw [zH (by simp)] at hf;have y0:ll p.srcs=0:=hf;rw [if_neg (by rw [y0];simp)] at hE';have hID:=ID H (fun s hs=>by
      obtain⟨j,hj,rfl⟩:=List.mem_iff_getElem.1 hs;have:=src_ok y0 (zB hj);refine⟨?_,this.2⟩;have h1:=this.1;unfold dZ at h1;simp at h1;omega)
     simp only [aj,hsr] at hID;have hge': ¬(p.srcs.length:Int)<p.srcs.length:=by omega
     simp [au,e2,e9,hX3];refine⟨by decide,?_⟩;refine ax.pure _ (fun _=>hID) ?_;by_cases z1:p.id=Qg p
     ·rw [if_neg (by simpa using z1)] at hE';subst hE';simp [←z1];exact hB
     ·rw [if_pos z1] at hE';subst hE';simp [z1];exact hB
   ·rw [if_pos ⟨t2,.inr u2⟩] at hE';subst hE';simp [au,aj,k2',t1,t2,u1,u2]
  ·rw [if_pos ⟨t2,.inl u1⟩] at hE';subst hE';simp [au,aj,k2',t1,t2,u1]
 ·by_cases t3:IK p.tag=0
  ·rw [if_neg (fun e=>e.2 t3)] at hE';simp [au,aj,k2',t1];refine ax.pure _ (fun _=>C _) ?_;simp [au,aj,k2',t1,t3];refine ax.pure _ (fun _=>NV _) ?_;by_cases t2:p.plate=[]
   ·rw [if_neg (fun e=>e.1 t2)] at hE';by_cases n6:p.cls<0∨9<p.cls
    ·rw [if_pos n6] at hE';subst hE';by_cases v1:p.cls<0
     ·simp [au,aj,k2',t1,t2,t3,v1]
     ·have v2:9<p.cls:=by omega
      simp [au,aj,k2',t1,t2,t3,v1,v2]
    rw [if_neg n6] at hE';have v1: ¬p.cls<0:=by omega
    have v2: ¬9<p.cls:=by omega
    have v1':0≤p.cls:=by omega
    have v2':p.cls≤9:=by omega
    by_cases n7:p.score<0∨1000<p.score
    ·rw [if_pos n7] at hE';subst hE';by_cases w1:p.score<0
     ·simp [au,aj,k2',t1,t2,t3,v1,v2,v1',v2',w1]
     ·have w2:1000<p.score:=by omega
      simp [au,aj,k2',t1,t2,t3,v1,v2,v1',v2',w1,w2]
    rw [if_neg n7] at hE';have w1: ¬p.score<0:=by omega
    have w2: ¬1000<p.score:=by omega
    have w1':0≤p.score:=by omega
    have w2':p.score≤1000:=by omega
    by_cases n8:p.srcs.length<1∨24<p.srcs.length
    ·rw [if_pos n8] at hE';subst hE';by_cases x1:p.srcs.length<1
     ·have x0:p.srcs=[]:=List.eq_nil_of_length_eq_zero (by omega);simp [au,aj,k2',t1,t2,t3,v1,v2,v1',v2',w1,w2,w1',w2',hsr,x0]
     ·have x2:24<p.srcs.length:=by omega
      have x3: ¬(p.srcs.length:Int)<1:=by omega
      have x4:(24:Int)<p.srcs.length:=by omega
      have x5: ¬p.srcs=[]:=fun e=>by rw [e] at x1;exact x1 (by decide)
      simp [au,aj,k2',t1,t2,t3,v1,v2,v1',v2',w1,w2,w1',w2',hsr,x2,x3,x4,x5]
    rw [if_neg n8] at hE';have x3: ¬(p.srcs.length:Int)<1:=by omega
    have x3':(1:Int)≤p.srcs.length:=by omega
    have x4: ¬(24:Int)<p.srcs.length:=by omega
    have x4':(p.srcs.length:Int)≤24:=by omega
    have x5: ¬p.srcs=[]:=fun e=>by rw [e] at n8;exact n8 (.inl (by decide))
    have x6: ¬24<p.srcs.length:=by omega
    simp [au,aj,k2',t1,t2,t3,v1,v2,v1',v2',w1,w2,w1',w2',hsr,x3,x3',x4,x4',x5,x6];refine aT.up mixed p.srcs.length (fun i fr H=>fr 2= .ptr h.length 0 0∧fr 9= .int .i64 i∧ll p.srcs=df (((List.range p.srcs.length).map (nI p.srcs)).drop i)∧H[h.length]? =some (.cells 8 [aj p])∧ ∃g,H=h++g) 0 (by omega)
     ⟨by simp,by simp,by simp [ll],by simp [au,aj,k2',t1,t2,t3,hsr],_,rfl⟩ ?_
    rintro i fr H hi ⟨e2,e9,hf,hX,hB⟩;have hX3:=at3 hX;simp only [aj,hsr] at hX3;rcases zN i p.srcs.length with hlt | hge
    ·obtain⟨s,hs,hs'⟩:=aN hlt;have ew:=aC (i:=i) (by omega);have hltI:(i:Int)<p.srcs.length:=by omega
     have hst:=oO (l:=(List.range p.srcs.length).map (nI p.srcs)) (i:=i) (x:=nI p.srcs i) (by simp [hlt]);simp [e2,e9,hX3,hlt,hltI];refine ax.pure _ (fun _=>pI p.srcs i hs hsl (fun s hs=>hp.dev s hs)) ?_;by_cases y1:nI p.srcs i=0
     ·rw [if_neg (by simpa using y1)] at hst;simp [e2,e9,y1,ew];exact⟨i+1,by omega,by omega,by omega,hf.trans hst,hX,hB⟩
     ·rw [if_pos y1] at hst;have y2:ll p.srcs=nI p.srcs i:=hf.trans hst;rw [if_pos (by rw [y2];exact y1),y2] at hE';subst hE';simp [e2,e9,y1];exact hB
    ·obtain rfl:i=p.srcs.length:=by omega
     rw [zH (by simp)] at hf;have y0:ll p.srcs=0:=hf;rw [if_neg (by rw [y0];simp)] at hE';have hID:=ID H (fun s hs=>by
      obtain⟨j,hj,rfl⟩:=List.mem_iff_getElem.1 hs;have:=src_ok y0 (zB hj);refine⟨?_,this.2⟩;have h1:=this.1;unfold dZ at h1;simp at h1;omega)
     simp only [aj,hsr] at hID;have hge': ¬(p.srcs.length:Int)<p.srcs.length:=by omega
     simp [au,e2,e9,hX3];refine⟨by decide,?_⟩;refine ax.pure _ (fun _=>hID) ?_;by_cases z1:p.id=Qg p
     ·rw [if_neg (by simpa using z1)] at hE';subst hE';simp [←z1];exact hB
     ·rw [if_pos z1] at hE';subst hE';simp [z1];exact hB
   by_cases u1:NE=0
   ·by_cases u2:NB=p.plate
    ·rw [if_neg (fun e=>by rcases e.2 with e | e;exact e u1;exact e u2)] at hE';by_cases n6:p.cls<0∨9<p.cls
     ·rw [if_pos n6] at hE';subst hE';by_cases v1:p.cls<0
      ·simp [au,aj,k2',t1,t3,t2,u1,u2,v1]
      ·have v2:9<p.cls:=by omega
       simp [au,aj,k2',t1,t3,t2,u1,u2,v1,v2]
     rw [if_neg n6] at hE';have v1: ¬p.cls<0:=by omega
     have v2: ¬9<p.cls:=by omega
     have v1':0≤p.cls:=by omega
     have v2':p.cls≤9:=by omega
     by_cases n7:p.score<0∨1000<p.score
     ·rw [if_pos n7] at hE';subst hE';by_cases w1:p.score<0
      ·simp [au,aj,k2',t1,t3,t2,u1,u2,v1,v2,v1',v2',w1]
      ·have w2:1000<p.score:=by omega
       simp [au,aj,k2',t1,t3,t2,u1,u2,v1,v2,v1',v2',w1,w2]
     rw [if_neg n7] at hE';have w1: ¬p.score<0:=by omega
     have w2: ¬1000<p.score:=by omega
     have w1':0≤p.score:=by omega
     have w2':p.score≤1000:=by omega
     by_cases n8:p.srcs.length<1∨24<p.srcs.length
     ·rw [if_pos n8] at hE';subst hE';by_cases x1:p.srcs.length<1
      ·have x0:p.srcs=[]:=List.eq_nil_of_length_eq_zero (by omega);simp [au,aj,k2',t1,t3,t2,u1,u2,v1,v2,v1',v2',w1,w2,w1',w2',hsr,x0]
      ·have x2:24<p.srcs.length:=by omega
       have x3: ¬(p.srcs.length:Int)<1:=by omega
       have x4:(24:Int)<p.srcs.length:=by omega
       have x5: ¬p.srcs=[]:=fun e=>by rw [e] at x1;exact x1 (by decide)
       simp [au,aj,k2',t1,t3,t2,u1,u2,v1,v2,v1',v2',w1,w2,w1',w2',hsr,x2,x3,x4,x5]
     rw [if_neg n8] at hE';have x3: ¬(p.srcs.length:Int)<1:=by omega
     have x3':(1:Int)≤p.srcs.length:=by omega
     have x4: ¬(24:Int)<p.srcs.length:=by omega
     have x4':(p.srcs.length:Int)≤24:=by omega
     have x5: ¬p.srcs=[]:=fun e=>by rw [e] at n8;exact n8 (.inl (by decide))
     have x6: ¬24<p.srcs.length:=by omega
     simp [au,aj,k2',t1,t3,t2,u1,u2,v1,v2,v1',v2',w1,w2,w1',w2',hsr,x3,x3',x4,x4',x5,x6];refine aT.up mixed p.srcs.length (fun i fr H=>fr 2= .ptr h.length 0 0∧fr 9= .int .i64 i∧ll p.srcs=df (((List.range p.srcs.length).map (nI p.srcs)).drop i)∧H[h.length]? =some (.cells 8 [aj p])∧ ∃g,H=h++g) 0 (by omega)
      ⟨by simp,by simp,by simp [ll],by simp [au,aj,k2',t1,t3,t2,u1,u2,hsr],_,rfl⟩ ?_
     rintro i fr H hi ⟨e2,e9,hf,hX,hB⟩;have hX3:=at3 hX;simp only [aj,hsr] at hX3;rcases zN i p.srcs.length with hlt | hge
     ·obtain⟨s,hs,hs'⟩:=aN hlt;have ew:=aC (i:=i) (by omega);have hltI:(i:Int)<p.srcs.length:=by omega
      have hst:=oO (l:=(List.range p.srcs.length).map (nI p.srcs)) (i:=i) (x:=nI p.srcs i) (by simp [hlt]);simp [e2,e9,hX3,hlt,hltI];refine ax.pure _ (fun _=>pI p.srcs i hs hsl (fun s hs=>hp.dev s hs)) ?_;by_cases y1:nI p.srcs i=0
      ·rw [if_neg (by simpa using y1)] at hst;simp [e2,e9,y1,ew];exact⟨i+1,by omega,by omega,by omega,hf.trans hst,hX,hB⟩
      ·rw [if_pos y1] at hst;have y2:ll p.srcs=nI p.srcs i:=hf.trans hst;rw [if_pos (by rw [y2];exact y1),y2] at hE';subst hE';simp [e2,e9,y1];exact hB
     ·obtain rfl:i=p.srcs.length:=by omega
      rw [zH (by simp)] at hf;have y0:ll p.srcs=0:=hf;rw [if_neg (by rw [y0];simp)] at hE';have hID:=ID H (fun s hs=>by
       obtain⟨j,hj,rfl⟩:=List.mem_iff_getElem.1 hs;have:=src_ok y0 (zB hj);refine⟨?_,this.2⟩;have h1:=this.1;unfold dZ at h1;simp at h1;omega)
      simp only [aj,hsr] at hID;have hge': ¬(p.srcs.length:Int)<p.srcs.length:=by omega
      simp [au,e2,e9,hX3];refine⟨by decide,?_⟩;refine ax.pure _ (fun _=>hID) ?_;by_cases z1:p.id=Qg p
      ·rw [if_neg (by simpa using z1)] at hE';subst hE';simp [←z1];exact hB
      ·rw [if_pos z1] at hE';subst hE';simp [z1];exact hB
    ·rw [if_pos ⟨t2,.inr u2⟩] at hE';subst hE';simp [au,aj,k2',t1,t3,t2,u1,u2]
   ·rw [if_pos ⟨t2,.inl u1⟩] at hE';subst hE';simp [au,aj,k2',t1,t3,t2,u1]
  ·rw [if_pos ⟨t1,t3⟩] at hE';subst hE';simp [au,aj,k2',t1];refine ax.pure _ (fun _=>C _) ?_;simp [au,aj,k2',t1,t3];refine ax.pure _ (fun _=>C _) ?_;simp
end Go.Proofs.YtkpioblbeiaefaaGreat
end
section
namespace Go.Toll
open Go Go.Abs
def yU:aZ:=⟨⟨[⟨[111],1,[109]⟩],[]⟩,[⟨[109],false,3600⟩]⟩
def nD:aA:=⟨[99,49,46,53],[111],100,[],[65,66,49,50],2,0,[bL ⟨[99,49],5⟩]⟩
def yB:bQ:=⟨[99,49,46,53],[65,66,49,50],[109],2,[⟨[111],100,[99,49,46,53]⟩]⟩
theorem EI:bT [nD]=[nD]:=by kernel_rfl
theorem Rh:(bR yU [nD] [65,66,49,50]).trips=[yB]:=by kernel_rfl
theorem Ob:(bR yU [nD] [65,66,49,50]).out=[]:=by kernel_rfl
theorem Od:yR [nD]=[65,66,49,50]:=by kernel_rfl
theorem UE:vW [nD] [65,66,49,50]=[nD]:=by kernel_rfl
theorem Qp:gQ [nD]=[[65,66,49,50]]:=by
 have h:jG [nD] 1=[[65,66,49,50]]:=by kernel_rfl
 have:gQ [nD]=jD (jG [nD] 1):=rfl;rw [this,h,jD];simp
theorem Sc:fu yU yB=0:=by decide+kernel
theorem Qo:fu yU ⟨[],[],[],0,[]⟩=6:=by decide+kernel
end Go.Toll
end
