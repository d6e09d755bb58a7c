/- Part 25 of the lemmas below the statements of this seat: PassC, TollAw21. -/
import Derived.Test.YtkpioblbeiaefaaGreatPr24
set_option linter.unusedSectionVars false
set_option linter.unusedVariables false
set_option linter.unusedSimpArgs false
set_option linter.unnecessarySimpa false
set_option maxRecDepth 100000
section
namespace Go.Proofs.YtkpioblbeiaefaaGreat
open Go Go.Abs Go.Toll
variable {gl : aM} {h : af}
theorem RX {n:Int} (h1:0≤n)(h2:n<256):IntKind.u8.wrap n=n:=by
 unfold IntKind.wrap;simp [IntKind.bits,IntKind.signed];omega
theorem Xz (c:UInt8):c.toNat<256:=c.toNat_lt
theorem XA {d:Nat} (h:d<256):(UInt8.ofNat d).toNat=d:=by simp;omega
set_option maxHeartbeats 4000000 in
theorem Hz (s:Bytes)(hs:s.length≤2000000):aa Tryz.prog gl 63 [.str s] h fun v h'=>v= .tup [.str (xx s).1,.int .i64 (xx s).2]∧h'=h:=by
 refine aa.data (by simp) (aa.body Tryz.f63 _ mixed Tryz.func63 rfl rfl (by simp [Tryz.ntmps63]) ?_);simp;refine aT.up mixed s.length (fun i fr H=>fr 0= .str s∧fr 5= .int .i64 i∧(∃g,H=h++g)∧ ∃acc:Bytes,uW s=(uW (s.drop i)).map (fun l=>acc++l)∧acc.length≤i∧ ∃y,fr 4=y∧Ls 1 h.length H y (acc.map iX)) 0 (by omega)
  ⟨by simp,by simp,⟨[],by simp⟩,[],by simp,by simp,.nil,by simp,by simpa using Ls.nil⟩ ?_
 rintro i fr H hi ⟨e0,e5,hB,acc,hN,hal,y,e4,hy⟩;have hyf:=hy.rs.fix;have hyl:=hy.rs.len2;have hlB:=bJ hB;rcases zN i s.length with hlt | hge
 ·obtain⟨c,hc,hc'⟩:=aJ hlt;have ew:=aB (i:=i) (by omega);have hltI:(i:Int)<s.length:=by omega
  have hc256:=Xz c;rw [bq hc,uW] at hN;by_cases k1:c.toNat=32∨c.toNat=45
  ·rw [if_pos k1] at hN;have fin: ∃k',i<k'∧k'≤s.length∧i+1=k':=⟨i+1,by omega,by omega,rfl⟩;rcases k1 with k1 | k1
   ·have k1':(c.toNat:Int)=32:=by omega
    simp [av,e0,e4,e5,hlt,hltI,hc,hc',k1,k1',ew];exact⟨i+1,by omega,by omega,by omega,hB,acc,hN,by omega,hy⟩
   ·have k1':(c.toNat:Int)=45:=by omega
    simp [av,e0,e4,e5,hlt,hltI,hc,hc',k1,k1',ew];exact⟨i+1,by omega,by omega,by omega,hB,acc,hN,by omega,hy⟩
  ·rw [if_neg k1] at hN;have n1: ¬(c.toNat:Int)=32:=by omega
   have n2: ¬(c.toNat:Int)=45:=by omega
   have n1': ¬c.toNat=32:=by omega
   have n2': ¬c.toNat=45:=by omega
   obtain⟨d,hd⟩: ∃d,Ui c.toNat=d:=⟨_,rfl⟩;rw [hd] at hN;have hd256:d<256:=by rw [←hd];unfold Ui;split <;> omega
   have step: ∀(fr':aG),True:=fun _=>trivial;by_cases k2:okB d=true
   ·rw [if_pos k2] at hN;have hN2:uW s=(uW (s.drop (i+1))).map (fun l=>(acc++[UInt8.ofNat d])++l):=by rw [hN,Option.map_map];congr 1;funext l;simp
    have hdm:(d:Int) % 256=d:=by omega
    have hd2:(((UInt8.ofNat d).toNat:Nat):Int)=d:=by rw [XA hd256]
    by_cases k3:97≤c.toNat∧c.toNat≤122
    ·have hdc:d=c.toNat - 32:=by rw [←hd,Ui,if_pos k3]
     have wd:IntKind.u8.wrap ((c.toNat:Int) - 32)=d:=by rw [RX (by omega) (by omega)];omega
     have a1:(97:Int)≤c.toNat:=by omega
     have a2:(c.toNat:Int)≤122:=by omega
     have a1':97≤c.toNat:=k3.1;have a2':c.toNat≤122:=k3.2;have b1:(65:Int)≤d:=by omega
     have b2:(d:Int)≤90:=by omega
     have b1':65≤d:=by omega
     have b2':d≤90:=by omega
     simp [av,-aj,-au,-ah,-AV.solid,e0,e4,e5,hlt,hltI,hc,hc',n1,n2,n1',n2',a1,a2,a1',a2',wd,b1,b2,b1',b2',hyf];refine aN (lo:=h.length) (n:=1) (es:=acc.map iX) (ys:=[iX (UInt8.ofNat d)]) (by simpa [iX,hdm] using hy.more _) (by simp;omega) (by simp [bE,iX,hdm]) (by simp;omega) ?_;intro s1 H1 hs1 hg1 hn1;have hs1f:=hs1.rs.fix;have hB1:=hg1.base h (by omega) (aI hB _);simp [-aj,-au,-ah,-AV.solid,e0,e4,e5,hs1f,ew];exact⟨i+1,by omega,by omega,by omega,hB1,acc++[UInt8.ofNat d],hN2,by simp;omega,by simpa using hs1⟩
    ·have hdc:d=c.toNat:=by rw [←hd,Ui,if_neg k3]
     subst hdc;have hk:(97:Int)≤c.toNat→ ¬(c.toNat:Int)≤122:=by omega
     have hko:=k2;simp only [okB,Bool.or_eq_true,decide_eq_true_eq] at hko;by_cases a1:97≤c.toNat
     ·omega
     ·have a1': ¬(97:Int)≤c.toNat:=by omega
      have app:bE Tryz.prog (H++[.cells 1 [iX (UInt8.ofNat c.toNat)]]) [135,135] 1 (.own H.length 0 1) [iX (UInt8.ofNat c.toNat)]:=by simp [bE,iX]
      have hfin: ∀s1 H1,Ls 1 h.length H1 s1 (acc.map iX++[iX (UInt8.ofNat c.toNat)])→Ls 1 h.length H1 s1 ((acc++[UInt8.ofNat c.toNat]).map iX):=fun s1 H1 hh=>by simpa using hh
      rcases hko with⟨b1,b2⟩ | ⟨b1,b2⟩
      ·have b1':(65:Int)≤c.toNat:=by omega
       have b2':(c.toNat:Int)≤90:=by omega
       simp [av,-aj,-au,-ah,-AV.solid,e0,e4,e5,hlt,hltI,hc,hc',n1,n2,n1',n2',a1,a1',b1,b2,b1',b2',hyf];refine aN (lo:=h.length) (n:=1) (es:=acc.map iX) (ys:=[iX (UInt8.ofNat c.toNat)]) (by simpa [iX,hd2] using hy.more _) (by simp;omega) (by simp [bE,iX]) (by simp;omega) ?_;intro s1 H1 hs1 hg1 hn1;have hs1f:=hs1.rs.fix;have hB1:=hg1.base h (by omega) (aI hB _);simp [-aj,-au,-ah,-AV.solid,e0,e4,e5,hs1f,ew];exact⟨i+1,by omega,by omega,by omega,hB1,acc++[UInt8.ofNat c.toNat],hN2,by simp;omega,hfin _ _ hs1⟩
      ·have b0: ¬65≤c.toNat:=by omega
       have b0': ¬(65:Int)≤c.toNat:=by omega
       have b1':(48:Int)≤c.toNat:=by omega
       have b2':(c.toNat:Int)≤57:=by omega
       simp [av,-aj,-au,-ah,-AV.solid,e0,e4,e5,hlt,hltI,hc,hc',n1,n2,n1',n2',a1,a1',b0,b0',b1,b2,b1',b2',hyf];refine aN (lo:=h.length) (n:=1) (es:=acc.map iX) (ys:=[iX (UInt8.ofNat c.toNat)]) (by simpa [iX,hd2] using hy.more _) (by simp;omega) (by simp [bE,iX]) (by simp;omega) ?_;intro s1 H1 hs1 hg1 hn1;have hs1f:=hs1.rs.fix;have hB1:=hg1.base h (by omega) (aI hB _);simp [-aj,-au,-ah,-AV.solid,e0,e4,e5,hs1f,ew];exact⟨i+1,by omega,by omega,by omega,hB1,acc++[UInt8.ofNat c.toNat],hN2,by simp;omega,hfin _ _ hs1⟩
   ·rw [if_neg k2] at hN;have hV:xx s=([],19):=by rw [xx,hN];rfl
    rw [hV];have hko:=k2;simp only [okB,Bool.or_eq_true,decide_eq_true_eq,not_or] at hko;have k3: ¬(97≤c.toNat∧c.toNat≤122):=fun k3=>by
     have hdc:d=c.toNat - 32:=by rw [←hd,Ui,if_pos k3]
     omega
    have hdc:d=c.toNat:=by rw [←hd,Ui,if_neg k3]
    subst hdc;have fin: ∀b1 b2 b3 b4 b5 b6:Bool,True:=fun _ _ _ _ _ _=>trivial;by_cases a1:97≤c.toNat
    ·have a1':(97:Int)≤c.toNat:=by omega
     have a2: ¬c.toNat≤122:=by omega
     have a2': ¬(c.toNat:Int)≤122:=by omega
     have b1:65≤c.toNat:=by omega
     have b1':(65:Int)≤c.toNat:=by omega
     have b2: ¬c.toNat≤90:=by omega
     have b2': ¬(c.toNat:Int)≤90:=by omega
     have b3:48≤c.toNat:=by omega
     have b3':(48:Int)≤c.toNat:=by omega
     have b4: ¬c.toNat≤57:=by omega
     have b4': ¬(c.toNat:Int)≤57:=by omega
     simp [av,e0,e4,e5,hlt,hltI,hc,hc',n1,n2,n1',n2',a1,a1',a2,a2',b1,b1',b2,b2',b3,b3',b4,b4'];exact hB
    ·have a1': ¬(97:Int)≤c.toNat:=by omega
     by_cases b1:65≤c.toNat
     ·have b1':(65:Int)≤c.toNat:=by omega
      have b2: ¬c.toNat≤90:=by omega
      have b2': ¬(c.toNat:Int)≤90:=by omega
      have b3:48≤c.toNat:=by omega
      have b3':(48:Int)≤c.toNat:=by omega
      have b4: ¬c.toNat≤57:=by omega
      have b4': ¬(c.toNat:Int)≤57:=by omega
      simp [av,e0,e4,e5,hlt,hltI,hc,hc',n1,n2,n1',n2',a1,a1',b1,b1',b2,b2',b3,b3',b4,b4'];exact hB
     ·have b1': ¬(65:Int)≤c.toNat:=by omega
      by_cases b3:48≤c.toNat
      ·have b3':(48:Int)≤c.toNat:=by omega
       have b4: ¬c.toNat≤57:=by omega
       have b4': ¬(c.toNat:Int)≤57:=by omega
       simp [av,e0,e4,e5,hlt,hltI,hc,hc',n1,n2,n1',n2',a1,a1',b1,b1',b3,b3',b4,b4'];exact hB
      ·have b3': ¬(48:Int)≤c.toNat:=by omega
       simp [av,e0,e4,e5,hlt,hltI,hc,hc',n1,n2,n1',n2',a1,a1',b1,b1',b3,b3'];exact hB
 ·obtain rfl:i=s.length:=by omega
  rw [zH (Nat.le_refl _)] at hN;have hN':uW s=some acc:=by rw [hN];simp [uW]
  have hV:xx s=if acc.length<2∨10<acc.length then ([],19) else (acc,0):=by rw [xx,hN']
  rw [hV];by_cases c1:acc.length<2
  ·have c1':(acc.length:Int)<2:=by omega
   have c1l:(acc.length:Int)≤1:=by omega
   simp [av,e0,e4,e5,hyf,hyl,c1,c1',c1l];exact hB
  ·have c1': ¬(acc.length:Int)<2:=by omega
   have c1l:(2:Int)≤acc.length:=by omega
   by_cases c2:10<acc.length
   ·have c2':(10:Int)<acc.length:=by omega
    simp [av,e0,e4,e5,hyf,hyl,c1,c1',c1l,c2,c2'];exact hB
   ·have c2': ¬(10:Int)<acc.length:=by omega
    have c2l:(acc.length:Int)≤10:=by omega
    rcases hy.1 with⟨_,he⟩ | ⟨b,rfl,hlb,hb⟩
    ·have:acc=[]:=by simpa using he
     rw [this] at c1;simp at c1
    ·have hb3:=at3 hb;simp [av,e0,e4,e5,hyl,c1,c1',c1l,c2,c2',c2l,hb3];exact⟨acc,zG (by simp),rfl,hB⟩
theorem Tn (ev:Bool) {c:Nat} (h1:48≤c)(h2:c≤57):0≤z8 ev c∧z8 ev c≤9:=by
 unfold z8;cases ev <;> simp <;> split <;> omega
set_option maxHeartbeats 2000000 in
theorem O1 (s:Bytes)(hs:s.length≤1000):aa Tryz.prog gl 96 [.str s] h fun v h'=>v= .int .i64 (Ij true 0 s)∧h'=h:=by
 refine aa.data (by simp) (aa.body Tryz.f96 _ mixed Tryz.func96 rfl rfl (by simp [Tryz.ntmps96]) ?_);simp;refine aT.up mixed s.length (fun i fr H=>fr 0= .str s∧fr 4= .int .i64 i∧(∃n:Int,fr 3= .int .i64 n∧0≤n∧n≤9*i∧Ij true 0 s=Ij (decide (i % 2=0)) n (s.drop i))∧h=H) 0 (by omega)
  ⟨by simp,by simp,⟨0,by simp,by omega,by omega,by simp⟩,rfl⟩ ?_
 rintro i fr H hi ⟨e0,e4,⟨n,e3,hn0,hn1,hf⟩,rfl⟩;rcases zN i s.length with hlt | hge
 ·obtain⟨c,hc,hc'⟩:=aJ hlt;have ew:=aB (i:=i) (by omega);have hltI:(i:Int)<s.length:=by omega
  rw [bq hc,Ij] at hf;rw [hf];by_cases c1:c.toNat<48
  ·have c1':(c.toNat:Int)<48:=by omega
   rw [if_pos (.inl c1)];simp [av,e0,e3,e4,hlt,hltI,hc,hc',c1,c1']
  ·have c1': ¬(c.toNat:Int)<48:=by omega
   have c1l:(48:Int)≤c.toNat:=by omega
   have c1n:48≤c.toNat:=by omega
   by_cases c2:57<c.toNat
   ·have c2':(57:Int)<c.toNat:=by omega
    rw [if_pos (.inr c2)];simp [av,e0,e3,e4,hlt,hltI,hc,hc',c1,c1',c1l,c1n,c2,c2']
   ·have c2': ¬(57:Int)<c.toNat:=by omega
    have c2l:(c.toNat:Int)≤57:=by omega
    have c2n:c.toNat≤57:=by omega
    rw [if_neg (by omega)];rw [if_neg (by omega)] at hf;have w1:IntKind.u8.wrap ((c.toNat:Int) - 48)=(c.toNat:Int) - 48:=RX (by omega) (by omega);have w2:IntKind.i64.wrap ((c.toNat:Int) - 48)=(c.toNat:Int) - 48:=aC (by omega) (by omega);have w3:IntKind.i64.wrap (2*((c.toNat:Int) - 48))=2*((c.toNat:Int) - 48):=aC (by omega) (by omega);have hb:=Tn (decide (i % 2=0)) c1n c2n;have w4:IntKind.i64.wrap (n+z8 (decide (i % 2=0)) c.toNat)=n+z8 (decide (i % 2=0)) c.toNat:=aC (by omega) (by omega);have hpar:(!decide (i % 2=0))=decide ((i+1) % 2=0):=by
     rw [Bool.eq_iff_iff];simp;omega
    have hrem:((i:Int).tmod 2=0)=(i % 2=0):=by
     rw [Int.tmod_eq_emod_of_nonneg (by omega)];apply propext;omega
    rw [hpar] at hf ⊢;have fin: ∃k',i<k'∧k'≤s.length∧((i+1:Nat):Int)=(k':Int):=⟨i+1,by omega,by omega,rfl⟩;generalize hc64:(c.toNat:Int)=C at*;by_cases d1:i % 2=0
    ·by_cases d2:9<2*(C - 48)
     ·have hd:z8 (decide (i % 2=0)) c.toNat=2*(C - 48) - 9:=by unfold z8;rw [hc64];simp [d1,d2]
      have w5:IntKind.i64.wrap (2*(C - 48) - 9)=2*(C - 48) - 9:=aC (by omega) (by omega);rw [hd] at w4 hf hb ⊢;simp [av,e0,e3,e4,hlt,hltI,hc,hc',c1,c1',c1l,c1n,c2,c2',c2l,c2n,hc64,w1,w2,w3,hrem,d1,d2,w5,w4,ew];exact⟨i+1,by omega,by omega,by omega,by omega,by omega,by simpa using hf.symm.trans (by rw [hf])⟩
     ·have hd:z8 (decide (i % 2=0)) c.toNat=2*(C - 48):=by unfold z8;rw [hc64];simp [d1,d2]
      rw [hd] at w4 hf hb ⊢;simp [av,e0,e3,e4,hlt,hltI,hc,hc',c1,c1',c1l,c1n,c2,c2',c2l,c2n,hc64,w1,w2,w3,hrem,d1,d2,w4,ew];exact⟨i+1,by omega,by omega,by omega,by omega,by omega,by simpa using hf.symm.trans (by rw [hf])⟩
    ·have d2: ¬9<C - 48:=by omega
     have hd:z8 (decide (i % 2=0)) c.toNat=C - 48:=by unfold z8;rw [hc64];simp [d1,d2]
     rw [hd] at w4 hf hb ⊢;simp [av,e0,e3,e4,hlt,hltI,hc,hc',c1,c1',c1l,c1n,c2,c2',c2l,c2n,hc64,w1,w2,w3,hrem,d1,d2,w4,ew];exact⟨i+1,by omega,by omega,by omega,by omega,by omega,by simpa using hf.symm.trans (by rw [hf])⟩
 ·have hge': ¬(i:Int)<s.length:=by omega
  rw [zH hge,Ij] at hf;simp [e0,e3,e4,hge',hf,Nat.not_lt.2 hge]
theorem JQ (s:Bytes):aa Tryz.prog gl 62 [.str s] h fun v h'=>v= .int .i64 (Kb s)∧h'=h:=by
 refine aa.data (by simp) (aa.body Tryz.f62 _ mixed Tryz.func62 rfl rfl (by simp [Tryz.ntmps62]) ?_);unfold Kb;by_cases c1:s.length=12
 ·have c1':(s.length:Int)=12:=by omega
  rw [if_neg (by simpa using c1)];simp [c1,c1'];refine ax.pure _ (fun _=>O1 s (by omega)) ?_;generalize Ij true 0 s=n;by_cases c2:n<0
  ·simp [av,c2]
  ·by_cases c3:n.tmod 10=0 <;> simp [av,c2,c3]
 ·have c1': ¬(s.length:Int)=12:=by omega
  rw [if_pos c1];simp [c1,c1']
theorem Sq {d:Nat} (h:d<10):(([48,49,50,51,52,53,54,55,56,57]:Bytes).take (d+1)).drop d=[UInt8.ofNat (48+d)]:=by
 have: ∀d:Fin 10,(([48,49,50,51,52,53,54,55,56,57]:Bytes).take (d.val+1)).drop d.val=[UInt8.ofNat (48+d.val)]:=by decide
 exact this ⟨d,h⟩
set_option maxHeartbeats 2000000 in
theorem Hu (n:Nat)(hn:n≤2147483648):aa Tryz.prog gl 98 [.int .i64 n] h fun v h'=>v= .str (El n)∧h'=h:=by
 refine aa.data (by simp) (aa.body Tryz.f98 _ mixed Tryz.func98 rfl rfl (by simp [Tryz.ntmps98]) ?_);by_cases c0:n=0
 ·subst c0;simp [El]
 ·have hM:El n=yj n:=by rw [El,if_neg c0]
  rw [hM];have c0': ¬(n:Int)=0:=by omega
  have hneg: ¬(n:Int)<0:=by omega
  have hneg':(0:Int)≤n:=by omega
  simp [c0,c0'];refine aT.down mixed (fun m fr H=>fr 0= .int .i64 n∧fr 4= .int .i64 m∧(∃s:Bytes,fr 3= .str s∧yj n=yj m++s∧s.length+m≤n)∧h=H) n
   ⟨by simp,by simp,⟨[],by simp,by simp,by simp⟩,rfl⟩ ?_
  rintro m fr H ⟨e0,e4,⟨s,e3,hf,hsl⟩,rfl⟩;by_cases c1:m=0
  ·subst c1;rw [oW,List.nil_append] at hf;simp [e0,e3,e4,hneg,hneg',hf]
  ·have c1': ¬(m:Int)=0:=by omega
   have hr:(m:Int).tmod 10=((m % 10:Nat):Int):=by rw [Int.tmod_eq_emod_of_nonneg (by omega)];omega
   have hq:(m:Int).tdiv 10=((m / 10:Nat):Int):=by rw [Int.tdiv_eq_ediv_of_nonneg (by omega)];omega
   have wq:IntKind.i64.wrap ((m / 10:Nat):Int)=((m / 10:Nat):Int):=aC (by omega) (by omega);have hd10:m % 10<10:=Nat.mod_lt _ (by omega);have hdc:=Sq hd10;rw [wW c1] at hf;have hdv:m / 10<m:=by omega
   generalize m / 10=Q at*;generalize m % 10=D at*;have w1:IntKind.i64.wrap ((D:Int)+1)=((D+1:Nat):Int):=by rw [aC (by omega) (by omega)];omega
   have hD0: ¬(D:Int)<0:=by omega
   have hD0':(0:Int)≤D:=by omega
   have hD9:D+1≤10:=by omega
   have hD9I:((D:Int)+1)≤10:=by omega
   have hT1:((D:Int)+1).toNat=D+1:=by omega
   have hsx:s.length+1≤9223372036854775807:=by omega
   simp [-Int.natCast_add,av,e0,e3,e4,c1,c1',hr,hq,wq,w1,hD0,hD0',hD9,hD9I,hT1];have hdc2:List.drop D (48::List.take D [49,50,51,52,53,54,55,56,57])=[UInt8.ofNat (48+D)]:=by rw [←hdc,List.take_succ_cons]
   refine⟨by omega,by omega,Q,by omega,rfl,?_,by omega⟩;rw [hdc2,hf,zK]
theorem Re (p:ay)(hp:p.Ok)(h0: ∀s∈p.srcs,s.dev.length≤100∧0≤s.seq∧s.seq≤2147483648):aa Tryz.prog gl 65 [.agg (ae p)] h fun v h'=>v= .str (R3 p)∧h'=h:=by
 refine aa.data (by simp) (aa.body Tryz.f65 _ mixed Tryz.func65 rfl rfl (by simp [Tryz.ntmps65]) ?_);have hsr:=hp.src;unfold R3
 cases hs:p.srcs with
 | nil=>
  rw [hs] at hsr;simp [ae,hsr]
 | cons a r=>
  have ha:=h0 a (by rw [hs];simp);rw [hs] at hsr;obtain⟨n,hn⟩: ∃n:Nat,a.seq=n:=⟨a.seq.toNat,by omega⟩;have hl: ¬((r.length:Int)+1=0):=by omega
  have hf:(El n).length≤1000000000000:=by
   have hb: ∀n:Nat,(yj n).length≤n:=by
    intro n
    induction n using Nat.strongRecOn with
    | _ n ih=>
     by_cases c:n=0
     ·subst c;rw [oW];simp
     ·rw [wW c,List.length_append];have:=ih (n / 10) (by omega);simp;omega
   have:=hb n;unfold El;split
   ·simp
   ·omega
  have hl1:a.dev.length≤9223372036854775806:=by omega
  have hl2:a.dev.length+1+(El n).length≤9223372036854775807:=by omega
  simp [ae,hsr,bN,hl,hn,hl1];refine⟨by decide,?_⟩;refine ax.pure _ (fun _=>Hu n (by omega)) ?_;simp [hl2]
def Xv (l:List jq)(i:Nat)(s:jq):Int:=if dW s.dev=false then 6 else if s.seq<0∨2147483648<s.seq then 2 else if i=0 then 0 else match l[i - 1]? with
  | none=>0
  | some r=>if 0≤eu r s then 15 else 0
set_option maxHeartbeats 1000000 in
theorem qI (l:List jq)(i:Nat) {s:jq} (hs:l[i]? =some s)(hl:l.length≤1000000)(hd: ∀s∈l,eG s.dev):aa Tryz.prog gl 64 [.ro (l.map bN),.int .i64 i] h fun v h'=>v= .int .i64 (ow l i)∧h'=h:=by
 refine aa.data (by simp) (aa.body Tryz.f64 _ mixed Tryz.func64 rfl rfl (by simp [Tryz.ntmps64]) ?_);have hG:ow l i=Xv l i s:=by rw [ow,hs];rfl
 rw [hG];have hlt:=aK hs;have hs':=(zA.1 hs).2;unfold Xv;simp [bN,hs,hs',hlt];refine ax.pure _ (fun _=>qG s.dev) ?_
 cases hn:dW s.dev with
 | false=>simp [av,bN,hs,hs',hlt]
 | true=>
  by_cases c1:s.seq<0
  ·simp [av,bN,hs,hs',hlt,c1]
  by_cases c2:2147483648<s.seq
  ·simp [av,bN,hs,hs',hlt,c1,c2]
  cases i with
  | zero=>
   simp [av,bN,hs,hs',hlt,c1,c2];refine⟨by decide,?_⟩;refine ax.pure (.int .i64 0) (fun c=>by cases c) ?_;simp [av]
  | succ j=>
   obtain⟨r,hr,hr'⟩:=aJ (l:=l) (i:=j) (by omega);have hjl:j<l.length:=by omega
   have w2:IntKind.i64.wrap (((j+1:Nat):Int) - 1)=(j:Int):=by rw [aC (by omega) (by omega)];omega
   have hjp:(0:Int)<((j+1:Nat):Int):=by omega
   simp [-Int.natCast_add,av,bN,hs,hs',hlt,c1,c2,hr,hr',hjl,w2,hjp];refine⟨by decide,?_⟩;refine ax.pure _ (fun _=>by simpa [bN] using uZ r s (hd r (zF hr))) ?_;by_cases c3:0≤eu r s <;> simp [av,c3]
set_option maxHeartbeats 2000000 in
theorem JR (n:bn)(p:ay)(hp:p.Ok)(hsl:p.srcs.length≤1000000)(hpl:p.plate.length≤2000000)(hnp:n.pts.length≤1000)(hnl:n.lks.length≤1000):
  aa Tryz.prog gl 31 [.agg (ae p),.agg (bU n)] h fun v h'=>v= .int .i64 (sZ n p)∧h'=h:=by
 refine aa.data (by simp) (aa.body Tryz.f31 _ mixed Tryz.func31 rfl rfl (by simp [Tryz.ntmps31]) ?_);have hsr:=hp.src;have F:=fun H:af=>vY (gl:=gl) (h:=H) n p.point hnp hnl;have T:=fun H:af=>qH (gl:=gl) (h:=H) p.time;have C:=fun H:af=>JQ (gl:=gl) (h:=H) p.tag;have NV:=fun H:af=>Hz (gl:=gl) (h:=H) p.plate hpl;have ID:=fun (H:af) h0=>Re (gl:=gl) (h:=H) p hp h0;obtain⟨NB,NE,hNV⟩: ∃NB NE,xx p.plate=(NB,NE):=⟨_,_,rfl⟩;rw [hNV] at NV;obtain⟨E,hE⟩: ∃E,sZ n p=E:=⟨_,rfl⟩;have hE':=hE;unfold sZ at hE';rw [hNV] at hE';rw [hE];simp [ae,bU];refine ax.pure _ (fun _=>F _) ?_;by_cases k1:(dF n p.point).isSome=false
 ·rw [if_pos k1] at hE';subst hE';simp [k1]
 have k1':(dF n p.point).isSome=true:=by
  cases hk:(dF n p.point).isSome with
  | true=>rfl
  | false=>exact absurd hk k1
 rw [if_neg k1] at hE';simp [ae,k1'];refine ax.pure _ (fun _=>T _) ?_;by_cases k2:bK p.time=false
 ·rw [if_pos k2] at hE';subst hE';simp [k2]
 have k2':bK p.time=true:=by simpa using k2
 rw [if_neg k2] at hE';by_cases k3:p.tag=[]∧p.plate=[]
 ·rw [if_pos k3] at hE';subst hE';obtain⟨c1,c2⟩:=k3;simp [av,ae,k2',c1,c2]
 rw [if_neg k3] at hE';by_cases t1:p.tag=[]
 ·have t2: ¬p.plate=[]:=fun e=>k3 ⟨t1,e⟩;rw [if_neg (fun e=>e.1 t1)] at hE';simp [av,ae,k2',t1,t2];refine ax.pure (.int .i64 0) (fun c=>by cases c) ?_;simp [av,ae,k2',t1,t2];refine ax.pure _ (fun _=>NV _) ?_;by_cases u1:NE=0
  ·by_cases u2:NB=p.plate
   ·rw [if_neg (fun e=>by rcases e.2 with e | e;exact e u1;exact e u2)] at hE';by_cases n6:p.cls<0∨9<p.cls
    ·rw [if_pos n6] at hE';subst hE';by_cases v1:p.cls<0
     ·simp [av,ae,k2',t1,t2,u1,u2,v1]
     ·have v2:9<p.cls:=by omega
      simp [av,ae,k2',t1,t2,u1,u2,v1,v2]
    rw [if_neg n6] at hE';have v1: ¬p.cls<0:=by omega
    have v2: ¬9<p.cls:=by omega
    have v1':0≤p.cls:=by omega
    have v2':p.cls≤9:=by omega
    by_cases n7:p.score<0∨1000<p.score
    ·rw [if_pos n7] at hE';subst hE';by_cases w1:p.score<0
     ·simp [av,ae,k2',t1,t2,u1,u2,v1,v2,v1',v2',w1]
     ·have w2:1000<p.score:=by omega
      simp [av,ae,k2',t1,t2,u1,u2,v1,v2,v1',v2',w1,w2]
    rw [if_neg n7] at hE';have w1: ¬p.score<0:=by omega
    have w2: ¬1000<p.score:=by omega
    have w1':0≤p.score:=by omega
    have w2':p.score≤1000:=by omega
    by_cases n8:p.srcs.length<1∨24<p.srcs.length
    ·rw [if_pos n8] at hE';subst hE';by_cases x1:p.srcs.length<1
     ·have x0:p.srcs=[]:=List.eq_nil_of_length_eq_zero (by omega);simp [av,ae,k2',t1,t2,u1,u2,v1,v2,v1',v2',w1,w2,w1',w2',hsr,x0]
     ·have x2:24<p.srcs.length:=by omega
      have x3: ¬(p.srcs.length:Int)<1:=by omega
      have x4:(24:Int)<p.srcs.length:=by omega
      have x5: ¬p.srcs=[]:=fun e=>by rw [e] at x1;exact x1 (by decide)
      simp [av,ae,k2',t1,t2,u1,u2,v1,v2,v1',v2',w1,w2,w1',w2',hsr,x2,x3,x4,x5]
    rw [if_neg n8] at hE';have x3: ¬(p.srcs.length:Int)<1:=by omega
    have x3':(1:Int)≤p.srcs.length:=by omega
    have x4: ¬(24:Int)<p.srcs.length:=by omega
    have x4':(p.srcs.length:Int)≤24:=by omega
    have x5: ¬p.srcs=[]:=fun e=>by rw [e] at n8;exact n8 (.inl (by decide))
    have x6: ¬24<p.srcs.length:=by omega
    simp [av,ae,k2',t1,t2,u1,u2,v1,v2,v1',v2',w1,w2,w1',w2',hsr,x3,x3',x4,x4',x5,x6];refine aT.up mixed p.srcs.length (fun i fr H=>fr 2= .ptr h.length 0 0∧fr 9= .int .i64 i∧mg p.srcs=cz (((List.range p.srcs.length).map (ow p.srcs)).drop i)∧H[h.length]? =some (.cells 8 [ae p])∧ ∃g,H=h++g) 0 (by omega)
     ⟨by simp,by simp,by simp [mg],by simp [av,ae,k2',t1,t2,u1,u2,hsr],_,rfl⟩ ?_
    rintro i fr H hi ⟨e2,e9,hf,hX,hB⟩;have hX3:=at3 hX;simp only [ae,hsr] at hX3;rcases zN i p.srcs.length with hlt | hge
    ·obtain⟨s,hs,hs'⟩:=aJ hlt;have ew:=aB (i:=i) (by omega);have hltI:(i:Int)<p.srcs.length:=by omega
     have hst:=mH (l:=(List.range p.srcs.length).map (ow p.srcs)) (i:=i) (x:=ow p.srcs i) (by simp [hlt]);simp [e2,e9,hX3,hlt,hltI];refine ax.pure _ (fun _=>qI p.srcs i hs hsl (fun s hs=>hp.dev s hs)) ?_;by_cases y1:ow p.srcs i=0
     ·rw [if_neg (by simpa using y1)] at hst;simp [e2,e9,y1,ew];exact⟨i+1,by omega,by omega,by omega,hf.trans hst,hX,hB⟩
     ·rw [if_pos y1] at hst;have y2:mg p.srcs=ow p.srcs i:=hf.trans hst;rw [if_pos (by rw [y2];exact y1),y2] at hE';subst hE';simp [e2,e9,y1];exact hB
    ·obtain rfl:i=p.srcs.length:=by omega
     rw [zH (by simp)] at hf;have y0:mg p.srcs=0:=hf;rw [if_neg (by rw [y0];simp)] at hE';have hID:=ID H (fun s hs=>by
      obtain⟨j,hj,rfl⟩:=List.mem_iff_getElem.1 hs;have:=src_ok y0 (zB hj);refine⟨?_,this.2⟩;have h1:=this.1;unfold dW at h1;simp at h1;omega)
     simp only [ae,hsr] at hID;have hge': ¬(p.srcs.length:Int)<p.srcs.length:=by omega
     simp [av,e2,e9,hX3];refine⟨by decide,?_⟩;refine ax.pure _ (fun _=>hID) ?_;by_cases z1:p.id=R3 p
     ·rw [if_neg (by simpa using z1)] at hE';subst hE';simp [←z1];exact hB
     ·rw [if_pos z1] at hE';subst hE';simp [z1];exact hB
   ·rw [if_pos ⟨t2,.inr u2⟩] at hE';subst hE';simp [av,ae,k2',t1,t2,u1,u2]
  ·rw [if_pos ⟨t2,.inl u1⟩] at hE';subst hE';simp [av,ae,k2',t1,t2,u1]
 ·by_cases t3:Kb p.tag=0
  ·rw [if_neg (fun e=>e.2 t3)] at hE';simp [av,ae,k2',t1];refine ax.pure _ (fun _=>C _) ?_;simp [av,ae,k2',t1,t3];refine ax.pure _ (fun _=>NV _) ?_;by_cases t2:p.plate=[]
   ·rw [if_neg (fun e=>e.1 t2)] at hE';by_cases n6:p.cls<0∨9<p.cls
    ·rw [if_pos n6] at hE';subst hE';by_cases v1:p.cls<0
     ·simp [av,ae,k2',t1,t2,t3,v1]
     ·have v2:9<p.cls:=by omega
      simp [av,ae,k2',t1,t2,t3,v1,v2]
    rw [if_neg n6] at hE';have v1: ¬p.cls<0:=by omega
    have v2: ¬9<p.cls:=by omega
    have v1':0≤p.cls:=by omega
    have v2':p.cls≤9:=by omega
    by_cases n7:p.score<0∨1000<p.score
    ·rw [if_pos n7] at hE';subst hE';by_cases w1:p.score<0
     ·simp [av,ae,k2',t1,t2,t3,v1,v2,v1',v2',w1]
     ·have w2:1000<p.score:=by omega
      simp [av,ae,k2',t1,t2,t3,v1,v2,v1',v2',w1,w2]
    rw [if_neg n7] at hE';have w1: ¬p.score<0:=by omega
    have w2: ¬1000<p.score:=by omega
    have w1':0≤p.score:=by omega
    have w2':p.score≤1000:=by omega
    by_cases n8:p.srcs.length<1∨24<p.srcs.length
    ·rw [if_pos n8] at hE';subst hE';by_cases x1:p.srcs.length<1
     ·have x0:p.srcs=[]:=List.eq_nil_of_length_eq_zero (by omega);simp [av,ae,k2',t1,t2,t3,v1,v2,v1',v2',w1,w2,w1',w2',hsr,x0]
     ·have x2:24<p.srcs.length:=by omega
      have x3: ¬(p.srcs.length:Int)<1:=by omega
      have x4:(24:Int)<p.srcs.length:=by omega
      have x5: ¬p.srcs=[]:=fun e=>by rw [e] at x1;exact x1 (by decide)
      simp [av,ae,k2',t1,t2,t3,v1,v2,v1',v2',w1,w2,w1',w2',hsr,x2,x3,x4,x5]
    rw [if_neg n8] at hE';have x3: ¬(p.srcs.length:Int)<1:=by omega
    have x3':(1:Int)≤p.srcs.length:=by omega
    have x4: ¬(24:Int)<p.srcs.length:=by omega
    have x4':(p.srcs.length:Int)≤24:=by omega
    have x5: ¬p.srcs=[]:=fun e=>by rw [e] at n8;exact n8 (.inl (by decide))
    have x6: ¬24<p.srcs.length:=by omega
    simp [av,ae,k2',t1,t2,t3,v1,v2,v1',v2',w1,w2,w1',w2',hsr,x3,x3',x4,x4',x5,x6];refine aT.up mixed p.srcs.length (fun i fr H=>fr 2= .ptr h.length 0 0∧fr 9= .int .i64 i∧mg p.srcs=cz (((List.range p.srcs.length).map (ow p.srcs)).drop i)∧H[h.length]? =some (.cells 8 [ae p])∧ ∃g,H=h++g) 0 (by omega)
     ⟨by simp,by simp,by simp [mg],by simp [av,ae,k2',t1,t2,t3,hsr],_,rfl⟩ ?_
    rintro i fr H hi ⟨e2,e9,hf,hX,hB⟩;have hX3:=at3 hX;simp only [ae,hsr] at hX3;rcases zN i p.srcs.length with hlt | hge
    ·obtain⟨s,hs,hs'⟩:=aJ hlt;have ew:=aB (i:=i) (by omega);have hltI:(i:Int)<p.srcs.length:=by omega
     have hst:=mH (l:=(List.range p.srcs.length).map (ow p.srcs)) (i:=i) (x:=ow p.srcs i) (by simp [hlt]);simp [e2,e9,hX3,hlt,hltI];refine ax.pure _ (fun _=>qI p.srcs i hs hsl (fun s hs=>hp.dev s hs)) ?_;by_cases y1:ow p.srcs i=0
     ·rw [if_neg (by simpa using y1)] at hst;simp [e2,e9,y1,ew];exact⟨i+1,by omega,by omega,by omega,hf.trans hst,hX,hB⟩
     ·rw [if_pos y1] at hst;have y2:mg p.srcs=ow p.srcs i:=hf.trans hst;rw [if_pos (by rw [y2];exact y1),y2] at hE';subst hE';simp [e2,e9,y1];exact hB
    ·obtain rfl:i=p.srcs.length:=by omega
     rw [zH (by simp)] at hf;have y0:mg p.srcs=0:=hf;rw [if_neg (by rw [y0];simp)] at hE';have hID:=ID H (fun s hs=>by
      obtain⟨j,hj,rfl⟩:=List.mem_iff_getElem.1 hs;have:=src_ok y0 (zB hj);refine⟨?_,this.2⟩;have h1:=this.1;unfold dW at h1;simp at h1;omega)
     simp only [ae,hsr] at hID;have hge': ¬(p.srcs.length:Int)<p.srcs.length:=by omega
     simp [av,e2,e9,hX3];refine⟨by decide,?_⟩;refine ax.pure _ (fun _=>hID) ?_;by_cases z1:p.id=R3 p
     ·rw [if_neg (by simpa using z1)] at hE';subst hE';simp [←z1];exact hB
     ·rw [if_pos z1] at hE';subst hE';simp [z1];exact hB
   by_cases u1:NE=0
   ·by_cases u2:NB=p.plate
    ·rw [if_neg (fun e=>by rcases e.2 with e | e;exact e u1;exact e u2)] at hE';by_cases n6:p.cls<0∨9<p.cls
     ·rw [if_pos n6] at hE';subst hE';by_cases v1:p.cls<0
      ·simp [av,ae,k2',t1,t3,t2,u1,u2,v1]
      ·have v2:9<p.cls:=by omega
       simp [av,ae,k2',t1,t3,t2,u1,u2,v1,v2]
     rw [if_neg n6] at hE';have v1: ¬p.cls<0:=by omega
     have v2: ¬9<p.cls:=by omega
     have v1':0≤p.cls:=by omega
     have v2':p.cls≤9:=by omega
     by_cases n7:p.score<0∨1000<p.score
     ·rw [if_pos n7] at hE';subst hE';by_cases w1:p.score<0
      ·simp [av,ae,k2',t1,t3,t2,u1,u2,v1,v2,v1',v2',w1]
      ·have w2:1000<p.score:=by omega
       simp [av,ae,k2',t1,t3,t2,u1,u2,v1,v2,v1',v2',w1,w2]
     rw [if_neg n7] at hE';have w1: ¬p.score<0:=by omega
     have w2: ¬1000<p.score:=by omega
     have w1':0≤p.score:=by omega
     have w2':p.score≤1000:=by omega
     by_cases n8:p.srcs.length<1∨24<p.srcs.length
     ·rw [if_pos n8] at hE';subst hE';by_cases x1:p.srcs.length<1
      ·have x0:p.srcs=[]:=List.eq_nil_of_length_eq_zero (by omega);simp [av,ae,k2',t1,t3,t2,u1,u2,v1,v2,v1',v2',w1,w2,w1',w2',hsr,x0]
      ·have x2:24<p.srcs.length:=by omega
       have x3: ¬(p.srcs.length:Int)<1:=by omega
       have x4:(24:Int)<p.srcs.length:=by omega
       have x5: ¬p.srcs=[]:=fun e=>by rw [e] at x1;exact x1 (by decide)
       simp [av,ae,k2',t1,t3,t2,u1,u2,v1,v2,v1',v2',w1,w2,w1',w2',hsr,x2,x3,x4,x5]
     rw [if_neg n8] at hE';have x3: ¬(p.srcs.length:Int)<1:=by omega
     have x3':(1:Int)≤p.srcs.length:=by omega
     have x4: ¬(24:Int)<p.srcs.length:=by omega
     have x4':(p.srcs.length:Int)≤24:=by omega
     have x5: ¬p.srcs=[]:=fun e=>by rw [e] at n8;exact n8 (.inl (by decide))
     have x6: ¬24<p.srcs.length:=by omega
     simp [av,ae,k2',t1,t3,t2,u1,u2,v1,v2,v1',v2',w1,w2,w1',w2',hsr,x3,x3',x4,x4',x5,x6];refine aT.up mixed p.srcs.length (fun i fr H=>fr 2= .ptr h.length 0 0∧fr 9= .int .i64 i∧mg p.srcs=cz (((List.range p.srcs.length).map (ow p.srcs)).drop i)∧H[h.length]? =some (.cells 8 [ae p])∧ ∃g,H=h++g) 0 (by omega)
      ⟨by simp,by simp,by simp [mg],by simp [av,ae,k2',t1,t3,t2,u1,u2,hsr],_,rfl⟩ ?_
     rintro i fr H hi ⟨e2,e9,hf,hX,hB⟩;have hX3:=at3 hX;simp only [ae,hsr] at hX3;rcases zN i p.srcs.length with hlt | hge
     ·obtain⟨s,hs,hs'⟩:=aJ hlt;have ew:=aB (i:=i) (by omega);have hltI:(i:Int)<p.srcs.length:=by omega
      have hst:=mH (l:=(List.range p.srcs.length).map (ow p.srcs)) (i:=i) (x:=ow p.srcs i) (by simp [hlt]);simp [e2,e9,hX3,hlt,hltI];refine ax.pure _ (fun _=>qI p.srcs i hs hsl (fun s hs=>hp.dev s hs)) ?_;by_cases y1:ow p.srcs i=0
      ·rw [if_neg (by simpa using y1)] at hst;simp [e2,e9,y1,ew];exact⟨i+1,by omega,by omega,by omega,hf.trans hst,hX,hB⟩
      ·rw [if_pos y1] at hst;have y2:mg p.srcs=ow p.srcs i:=hf.trans hst;rw [if_pos (by rw [y2];exact y1),y2] at hE';subst hE';simp [e2,e9,y1];exact hB
     ·obtain rfl:i=p.srcs.length:=by omega
      rw [zH (by simp)] at hf;have y0:mg p.srcs=0:=hf;rw [if_neg (by rw [y0];simp)] at hE';have hID:=ID H (fun s hs=>by
       obtain⟨j,hj,rfl⟩:=List.mem_iff_getElem.1 hs;have:=src_ok y0 (zB hj);refine⟨?_,this.2⟩;have h1:=this.1;unfold dW at h1;simp at h1;omega)
      simp only [ae,hsr] at hID;have hge': ¬(p.srcs.length:Int)<p.srcs.length:=by omega
      simp [av,e2,e9,hX3];refine⟨by decide,?_⟩;refine ax.pure _ (fun _=>hID) ?_;by_cases z1:p.id=R3 p
      ·rw [if_neg (by simpa using z1)] at hE';subst hE';simp [←z1];exact hB
      ·rw [if_pos z1] at hE';subst hE';simp [z1];exact hB
    ·rw [if_pos ⟨t2,.inr u2⟩] at hE';subst hE';simp [av,ae,k2',t1,t3,t2,u1,u2]
   ·rw [if_pos ⟨t2,.inl u1⟩] at hE';subst hE';simp [av,ae,k2',t1,t3,t2,u1]
  ·rw [if_pos ⟨t1,t3⟩] at hE';subst hE';simp [av,ae,k2',t1];refine ax.pure _ (fun _=>C _) ?_;simp [av,ae,k2',t1,t3];refine ax.pure _ (fun _=>C _) ?_;simp
end Go.Proofs.YtkpioblbeiaefaaGreat
end
section
namespace Go.Toll
open Go Go.Abs
def Ap:aY:=⟨⟨[⟨[111],1,[109]⟩],[]⟩,[⟨[109],false,3600⟩]⟩
def oh:ay:=⟨[99,49,46,53],[111],100,[],[65,66,49,50],2,0,[bN ⟨[99,49],5⟩]⟩
def zZ:bW:=⟨[99,49,46,53],[65,66,49,50],[109],2,[⟨[111],100,[99,49,46,53]⟩]⟩
theorem Gq:aW [oh]=[oh]:=by kernel_rfl
theorem TA:(bI Ap [oh] [65,66,49,50]).trips=[zZ]:=by kernel_rfl
theorem PV:(bI Ap [oh] [65,66,49,50]).out=[]:=by kernel_rfl
theorem PX:xO [oh]=[65,66,49,50]:=by kernel_rfl
theorem Wx:jM [oh] [65,66,49,50]=[oh]:=by kernel_rfl
theorem Sd:dI [oh]=[[65,66,49,50]]:=by
 have h:jh [oh] 1=[[65,66,49,50]]:=by kernel_rfl
 have:dI [oh]=ku (jh [oh] 1):=rfl;rw [this,h,ku];simp
theorem Uy:eP Ap zZ=0:=by decide+kernel
theorem Sc:eP Ap ⟨[],[],[],0,[]⟩=6:=by decide+kernel
end Go.Toll
end
