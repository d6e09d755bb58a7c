/- Part 31 of the lemmas below the statements of this seat: TollPassV, PassC, TollAw21. -/
import Derived.Test.YtkpioblbeiaefaaGreatPb30
set_option linter.unusedSectionVars false
set_option linter.unusedVariables false
set_option linter.unusedSimpArgs false
set_option linter.unnecessarySimpa false
set_option maxRecDepth 100000
section
namespace Go.Toll
open Go Go.Abs
def V9 (c:Nat):Nat:=if 97≤c∧c≤122 then c - 32 else c
def okB (c:Nat):Bool:=decide (65≤c∧c≤90) || decide (48≤c∧c≤57)
def wP:Bytes→Option Bytes
 | []=>some []
 | c::r=>if c.toNat=32∨c.toNat=45 then wP r else if okB (V9 c.toNat)=true then (wP r).map fun l=>UInt8.ofNat (V9 c.toNat)::l else none
def yK (s:Bytes):Bytes×Int:=match wP s with
 | none=>([],19)
 | some b=>if b.length<2∨10<b.length then ([],19) else (b,0)
def BI (ev:Bool)(c:Nat):Int:=if 9<(if ev=true then 2*((c:Int) - 48) else (c:Int) - 48) then (if ev=true then 2*((c:Int) - 48) else (c:Int) - 48) - 9 else (if ev=true then 2*((c:Int) - 48) else (c:Int) - 48)
def Kh:Bool→Int→Bytes→Int
 | _,n,[]=>n
 | ev,n,c::r=>if c.toNat<48∨57<c.toNat then -1 else Kh (!ev) (n+BI ev c.toNat) r
def Mw (s:Bytes):Int:=if s.length≠12 then 18 else if Kh true 0 s<0∨(Kh true 0 s).tmod 10≠0 then 18 else 0
def zU (n:Nat):Bytes:=if h:n=0 then [] else zU (n / 10)++[UInt8.ofNat (48+n % 10)]
termination_by n
decreasing_by omega
theorem qR:zU 0=[]:=by rw [zU];rfl
theorem yx {n:Nat} (h:n≠0):zU n=zU (n / 10)++[UInt8.ofNat (48+n % 10)]:=by rw [zU,dif_neg h]
def FZ (n:Nat):Bytes:=if n=0 then [48] else zU n
def qp (l:List kg)(i:Nat):Int:=match l[i]? with
 | none=>0
 | some s=>if fE s.dev=false then 6 else if s.seq<0∨2147483648<s.seq then 2 else if i=0 then 0 else match l[i - 1]? with
  | none=>0
  | some r=>if 0≤fK r s then 15 else 0
def nA (l:List kg):Int:=dE ((List.range l.length).map (qp l))
theorem AY: ∀ {l:List Int},dE l=0→ ∀x∈l,x=0
 | [],_,x,hx=>by cases hx
 | a::r,h,x,hx=>by
  rw [dE] at h;by_cases c:a=0
  ·rw [if_neg (by simpa using c)] at h;rcases List.mem_cons.1 hx with rfl | hx
   ·exact c
   ·exact AY h x hx
  ·rw [if_pos c] at h;exact absurd h c
def Uu (p:aC):Bytes:=match p.srcs with
 | []=>[]
 | a::_=>a.dev++[46]++FZ a.seq.toNat
def uW (n:bv)(p:aC):Int:=
 if (bH n p.point).isSome=false then 16
 else if bS p.time=false then 12
 else if p.tag=[]∧p.plate=[] then 1
 else if p.tag≠[]∧Mw p.tag≠0 then Mw p.tag
 else if p.plate≠[]∧((yK p.plate).2≠0∨(yK p.plate).1≠p.plate) then 19
 else if p.cls<0∨9<p.cls then 20
 else if p.score<0∨1000<p.score then 1
 else if p.srcs.length<1∨24<p.srcs.length then 3
 else if nA p.srcs≠0 then nA p.srcs
 else if p.id≠Uu p then 6 else 0
theorem src_ok {l:List kg} (h:nA l=0) {i:Nat} {s:kg} (hs:l[i]? =some s):fE s.dev=true∧0≤s.seq∧s.seq≤2147483648:=by
 have h1:=AY h (qp l i) (List.mem_map.2 ⟨i,List.mem_range.2 (aK hs),rfl⟩);unfold qp at h1;rw [hs] at h1;simp only at h1;split at h1
 ·cases h1
 ·rename_i a;split at h1
  ·cases h1
  ·rename_i b;exact⟨by simpa using a,by omega,by omega⟩
theorem W9 {p:aC} (h:p.srcs≠[]):Uu p≠[]:=by
 unfold Uu;split
 ·contradiction
 ·simp
theorem Ig {t : bn} {p : aC} (h : uW t.net p = 0) (hz : bZ t = 0) : qD t p ∧ p.srcs.length ≤ 24 ∧ p.id.length ≤ 1000 ∧ p.tag.length ≤ 12 := by
  unfold uW at h
  split at h
  · cases h
  rename_i a1
  split at h
  · cases h
  rename_i a2
  split at h
  · cases h
  rename_i a3
  split at h
  · rename_i a4; exact absurd h a4.2
  rename_i a4
  split at h
  · cases h
  split at h
  · cases h
  split at h
  · cases h
  split at h
  · cases h
  rename_i a8
  split at h
  · rename_i a9; exact absurd h a9
  rename_i a9
  split at h
  · cases h
  rename_i a10
  have e10 : p.id = Uu p := by simpa using a10
  have hne : p.srcs ≠ [] := fun e => a8 (.inl (by rw [e]; decide))
  refine ⟨⟨?_, by simpa using a2, ?_, ?_⟩, by omega, ?_, ?_⟩
  · have hv := iD hz
    have hn := fC t
    rw [hv] at hn
    rw [bH, if_pos hn] at a1
    rw [aL, List.any_eq_true]
    cases hf : t.net.pts.find? fun q => decide (q.name = p.point) with
    | none => rw [hf] at a1; simp at a1
    | some q => exact ⟨q, List.mem_of_find?_eq_some hf, by simpa using List.find?_some hf⟩
  · rw [e10]; exact W9 hne
  · by_cases c : p.tag = []
    · exact .inr fun e => a3 ⟨c, e⟩
    · exact .inl c
  · rw [e10]
    unfold Uu
    cases hsr : p.srcs with
    | nil => exact absurd hsr hne
    | cons s r =>
      have h0 : nA p.srcs = 0 := by simpa using a9
      have := src_ok h0 (i := 0) (s := s) (by rw [hsr]; rfl)
      have hnm : s.dev.length ≤ 12 := by
        have h1 := this.1
        unfold fE at h1
        simp at h1
        exact h1.1.2
      have hf : ∀ n : Nat, (zU n).length ≤ n := by
        intro n
        induction n using Nat.strongRecOn with
        | _ n ih =>
          by_cases c : n = 0
          · subst c; rw [qR]; simp
          · rw [yx c, List.length_append]
            have := ih (n / 10) (by omega)
            simp
            omega
      have hf2 : ∀ k n : Nat, n < 10 ^ k → (zU n).length ≤ k := by
        intro k
        induction k with
        | zero => intro n hn; have : n = 0 := by simpa using hn
                  subst this; rw [qR]; simp
        | succ k ih =>
          intro n hn
          by_cases c : n = 0
          · subst c; rw [qR]; simp
          · rw [yx c, List.length_append]
            have := ih (n / 10) (by rw [Nat.pow_succ] at hn; omega)
            simp
            omega
      have hl : (FZ s.seq.toNat).length ≤ 20 := by
        unfold FZ
        split
        · simp
        · exact hf2 20 _ (by have : s.seq.toNat ≤ 2147483648 := by omega
                             exact Nat.lt_of_le_of_lt this (by decide))
      simp
      omega
  · by_cases c : p.tag = []
    · rw [c]; simp
    · have h1 : Mw p.tag = 0 := by
        by_cases d : Mw p.tag = 0
        · exact d
        · exact absurd ⟨c, d⟩ a4
      unfold Mw at h1
      split at h1
      · cases h1
      · rename_i h2; have : p.tag.length = 12 := by simpa using h2
        omega
end Go.Toll
end
section
namespace Go.Proofs.YtkpioblbeiaefaaGreat
open Go Go.Abs Go.Toll
variable {gl : aR} {h : ak}
theorem Us {n:Int} (h1:0≤n)(h2:n<256):IntKind.u8.wrap n=n:=by
 unfold IntKind.wrap;simp [IntKind.bits,IntKind.signed];omega
theorem Zl (c:UInt8):c.toNat<256:=c.toNat_lt
theorem Zm {d:Nat} (h:d<256):(UInt8.ofNat d).toNat=d:=by simp;omega
set_option maxHeartbeats 4000000 in
theorem JW (s:Bytes)(hs:s.length≤2000000):af Tryz.prog gl 63 [.str s] h fun v h'=>v= .tup [.str (yK s).1,.int .i64 (yK s).2]∧h'=h:=by
 refine af.data (by simp) (af.body Tryz.f63 _ mixed Tryz.func63 rfl rfl (by simp [Tryz.ntmps63]) ?_);simp;refine aW.up mixed s.length (fun i fr H=>fr 0= .str s∧fr 5= .int .i64 i∧(∃g,H=h++g)∧ ∃acc:Bytes,wP s=(wP (s.drop i)).map (fun l=>acc++l)∧acc.length≤i∧ ∃y,fr 4=y∧Ls 1 h.length H y (acc.map jQ)) 0 (by omega)
  ⟨by simp,by simp,⟨[],by simp⟩,[],by simp,by simp,.nil,by simp,by simpa using Ls.nil⟩ ?_
 rintro i fr H hi ⟨e0,e5,hB,acc,hN,hal,y,e4,hy⟩;have hyf:=hy.rs.fix;have hyl:=hy.rs.len2;have hlB:=aV hB;rcases zN i s.length with hlt | hge
 ·obtain⟨c,hc,hc'⟩:=aN hlt;have ew:=aB (i:=i) (by omega);have hltI:(i:Int)<s.length:=by omega
  have hc256:=Zl c;rw [bF hc,wP] at hN;by_cases k1:c.toNat=32∨c.toNat=45
  ·rw [if_pos k1] at hN;have fin: ∃k',i<k'∧k'≤s.length∧i+1=k':=⟨i+1,by omega,by omega,rfl⟩;rcases k1 with k1 | k1
   ·have k1':(c.toNat:Int)=32:=by omega
    simp [au,e0,e4,e5,hlt,hltI,hc,hc',k1,k1',ew];exact⟨i+1,by omega,by omega,by omega,hB,acc,hN,by omega,hy⟩
   ·have k1':(c.toNat:Int)=45:=by omega
    simp [au,e0,e4,e5,hlt,hltI,hc,hc',k1,k1',ew];exact⟨i+1,by omega,by omega,by omega,hB,acc,hN,by omega,hy⟩
  ·rw [if_neg k1] at hN;have n1: ¬(c.toNat:Int)=32:=by omega
   have n2: ¬(c.toNat:Int)=45:=by omega
   have n1': ¬c.toNat=32:=by omega
   have n2': ¬c.toNat=45:=by omega
   obtain⟨d,hd⟩: ∃d,V9 c.toNat=d:=⟨_,rfl⟩;rw [hd] at hN;have hd256:d<256:=by rw [←hd];unfold V9;split <;> omega
   have step: ∀(fr':aP),True:=fun _=>trivial;by_cases k2:okB d=true
   ·rw [if_pos k2] at hN;have hN2:wP s=(wP (s.drop (i+1))).map (fun l=>(acc++[UInt8.ofNat d])++l):=by rw [hN,Option.map_map];congr 1;funext l;simp
    have hdm:(d:Int) % 256=d:=by omega
    have hd2:(((UInt8.ofNat d).toNat:Nat):Int)=d:=by rw [Zm hd256]
    by_cases k3:97≤c.toNat∧c.toNat≤122
    ·have hdc:d=c.toNat - 32:=by rw [←hd,V9,if_pos k3]
     have wd:IntKind.u8.wrap ((c.toNat:Int) - 32)=d:=by rw [Us (by omega) (by omega)];omega
     have a1:(97:Int)≤c.toNat:=by omega
     have a2:(c.toNat:Int)≤122:=by omega
     have a1':97≤c.toNat:=k3.1;have a2':c.toNat≤122:=k3.2;have b1:(65:Int)≤d:=by omega
     have b2:(d:Int)≤90:=by omega
     have b1':65≤d:=by omega
     have b2':d≤90:=by omega
     simp [au,-ae,-ai,-ah,-AV.solid,e0,e4,e5,hlt,hltI,hc,hc',n1,n2,n1',n2',a1,a2,a1',a2',wd,b1,b2,b1',b2',hyf];refine aG (lo:=h.length) (n:=1) (es:=acc.map jQ) (ys:=[jQ (UInt8.ofNat d)]) (by simpa [jQ,hdm] using hy.more _) (by simp;omega) (by simp [bu,jQ,hdm]) (by simp;omega) ?_;intro s1 H1 hs1 hg1 hn1;have hs1f:=hs1.rs.fix;have hB1:=hg1.base h (by omega) (aF hB _);simp [-ae,-ai,-ah,-AV.solid,e0,e4,e5,hs1f,ew];exact⟨i+1,by omega,by omega,by omega,hB1,acc++[UInt8.ofNat d],hN2,by simp;omega,by simpa using hs1⟩
    ·have hdc:d=c.toNat:=by rw [←hd,V9,if_neg k3]
     subst hdc;have hk:(97:Int)≤c.toNat→ ¬(c.toNat:Int)≤122:=by omega
     have hko:=k2;simp only [okB,Bool.or_eq_true,decide_eq_true_eq] at hko;by_cases a1:97≤c.toNat
     ·omega
     ·have a1': ¬(97:Int)≤c.toNat:=by omega
      have app:bu Tryz.prog (H++[.cells 1 [jQ (UInt8.ofNat c.toNat)]]) [135,135] 1 (.own H.length 0 1) [jQ (UInt8.ofNat c.toNat)]:=by simp [bu,jQ]
      have hfin: ∀s1 H1,Ls 1 h.length H1 s1 (acc.map jQ++[jQ (UInt8.ofNat c.toNat)])→Ls 1 h.length H1 s1 ((acc++[UInt8.ofNat c.toNat]).map jQ):=fun s1 H1 hh=>by simpa using hh
      rcases hko with⟨b1,b2⟩ | ⟨b1,b2⟩
      ·have b1':(65:Int)≤c.toNat:=by omega
       have b2':(c.toNat:Int)≤90:=by omega
       simp [au,-ae,-ai,-ah,-AV.solid,e0,e4,e5,hlt,hltI,hc,hc',n1,n2,n1',n2',a1,a1',b1,b2,b1',b2',hyf];refine aG (lo:=h.length) (n:=1) (es:=acc.map jQ) (ys:=[jQ (UInt8.ofNat c.toNat)]) (by simpa [jQ,hd2] using hy.more _) (by simp;omega) (by simp [bu,jQ]) (by simp;omega) ?_;intro s1 H1 hs1 hg1 hn1;have hs1f:=hs1.rs.fix;have hB1:=hg1.base h (by omega) (aF hB _);simp [-ae,-ai,-ah,-AV.solid,e0,e4,e5,hs1f,ew];exact⟨i+1,by omega,by omega,by omega,hB1,acc++[UInt8.ofNat c.toNat],hN2,by simp;omega,hfin _ _ hs1⟩
      ·have b0: ¬65≤c.toNat:=by omega
       have b0': ¬(65:Int)≤c.toNat:=by omega
       have b1':(48:Int)≤c.toNat:=by omega
       have b2':(c.toNat:Int)≤57:=by omega
       simp [au,-ae,-ai,-ah,-AV.solid,e0,e4,e5,hlt,hltI,hc,hc',n1,n2,n1',n2',a1,a1',b0,b0',b1,b2,b1',b2',hyf];refine aG (lo:=h.length) (n:=1) (es:=acc.map jQ) (ys:=[jQ (UInt8.ofNat c.toNat)]) (by simpa [jQ,hd2] using hy.more _) (by simp;omega) (by simp [bu,jQ]) (by simp;omega) ?_;intro s1 H1 hs1 hg1 hn1;have hs1f:=hs1.rs.fix;have hB1:=hg1.base h (by omega) (aF hB _);simp [-ae,-ai,-ah,-AV.solid,e0,e4,e5,hs1f,ew];exact⟨i+1,by omega,by omega,by omega,hB1,acc++[UInt8.ofNat c.toNat],hN2,by simp;omega,hfin _ _ hs1⟩
   ·rw [if_neg k2] at hN;have hV:yK s=([],19):=by rw [yK,hN];rfl
    rw [hV];have hko:=k2;simp only [okB,Bool.or_eq_true,decide_eq_true_eq,not_or] at hko;have k3: ¬(97≤c.toNat∧c.toNat≤122):=fun k3=>by
     have hdc:d=c.toNat - 32:=by rw [←hd,V9,if_pos k3]
     omega
    have hdc:d=c.toNat:=by rw [←hd,V9,if_neg k3]
    subst hdc;have fin: ∀b1 b2 b3 b4 b5 b6:Bool,True:=fun _ _ _ _ _ _=>trivial;by_cases a1:97≤c.toNat
    ·have a1':(97:Int)≤c.toNat:=by omega
     have a2: ¬c.toNat≤122:=by omega
     have a2': ¬(c.toNat:Int)≤122:=by omega
     have b1:65≤c.toNat:=by omega
     have b1':(65:Int)≤c.toNat:=by omega
     have b2: ¬c.toNat≤90:=by omega
     have b2': ¬(c.toNat:Int)≤90:=by omega
     have b3:48≤c.toNat:=by omega
     have b3':(48:Int)≤c.toNat:=by omega
     have b4: ¬c.toNat≤57:=by omega
     have b4': ¬(c.toNat:Int)≤57:=by omega
     simp [au,e0,e4,e5,hlt,hltI,hc,hc',n1,n2,n1',n2',a1,a1',a2,a2',b1,b1',b2,b2',b3,b3',b4,b4'];exact hB
    ·have a1': ¬(97:Int)≤c.toNat:=by omega
     by_cases b1:65≤c.toNat
     ·have b1':(65:Int)≤c.toNat:=by omega
      have b2: ¬c.toNat≤90:=by omega
      have b2': ¬(c.toNat:Int)≤90:=by omega
      have b3:48≤c.toNat:=by omega
      have b3':(48:Int)≤c.toNat:=by omega
      have b4: ¬c.toNat≤57:=by omega
      have b4': ¬(c.toNat:Int)≤57:=by omega
      simp [au,e0,e4,e5,hlt,hltI,hc,hc',n1,n2,n1',n2',a1,a1',b1,b1',b2,b2',b3,b3',b4,b4'];exact hB
     ·have b1': ¬(65:Int)≤c.toNat:=by omega
      by_cases b3:48≤c.toNat
      ·have b3':(48:Int)≤c.toNat:=by omega
       have b4: ¬c.toNat≤57:=by omega
       have b4': ¬(c.toNat:Int)≤57:=by omega
       simp [au,e0,e4,e5,hlt,hltI,hc,hc',n1,n2,n1',n2',a1,a1',b1,b1',b3,b3',b4,b4'];exact hB
      ·have b3': ¬(48:Int)≤c.toNat:=by omega
       simp [au,e0,e4,e5,hlt,hltI,hc,hc',n1,n2,n1',n2',a1,a1',b1,b1',b3,b3'];exact hB
 ·obtain rfl:i=s.length:=by omega
  rw [zH (Nat.le_refl _)] at hN;have hN':wP s=some acc:=by rw [hN];simp [wP]
  have hV:yK s=if acc.length<2∨10<acc.length then ([],19) else (acc,0):=by rw [yK,hN']
  rw [hV];by_cases c1:acc.length<2
  ·have c1':(acc.length:Int)<2:=by omega
   have c1l:(acc.length:Int)≤1:=by omega
   simp [au,e0,e4,e5,hyf,hyl,c1,c1',c1l];exact hB
  ·have c1': ¬(acc.length:Int)<2:=by omega
   have c1l:(2:Int)≤acc.length:=by omega
   by_cases c2:10<acc.length
   ·have c2':(10:Int)<acc.length:=by omega
    simp [au,e0,e4,e5,hyf,hyl,c1,c1',c1l,c2,c2'];exact hB
   ·have c2': ¬(10:Int)<acc.length:=by omega
    have c2l:(acc.length:Int)≤10:=by omega
    rcases hy.1 with⟨_,he⟩ | ⟨b,rfl,hlb,hb⟩
    ·have:acc=[]:=by simpa using he
     rw [this] at c1;simp at c1
    ·have hb3:=at3 hb;simp [au,e0,e4,e5,hyl,c1,c1',c1l,c2,c2',c2l,hb3];exact⟨acc,zG (by simp),rfl,hB⟩
theorem Vs (ev:Bool) {c:Nat} (h1:48≤c)(h2:c≤57):0≤BI ev c∧BI ev c≤9:=by
 unfold BI;cases ev <;> simp <;> split <;> omega
set_option maxHeartbeats 2000000 in
theorem Q8 (s:Bytes)(hs:s.length≤1000):af Tryz.prog gl 96 [.str s] h fun v h'=>v= .int .i64 (Kh true 0 s)∧h'=h:=by
 refine af.data (by simp) (af.body Tryz.f96 _ mixed Tryz.func96 rfl rfl (by simp [Tryz.ntmps96]) ?_);simp;refine aW.up mixed s.length (fun i fr H=>fr 0= .str s∧fr 4= .int .i64 i∧(∃n:Int,fr 3= .int .i64 n∧0≤n∧n≤9*i∧Kh true 0 s=Kh (decide (i % 2=0)) n (s.drop i))∧h=H) 0 (by omega)
  ⟨by simp,by simp,⟨0,by simp,by omega,by omega,by simp⟩,rfl⟩ ?_
 rintro i fr H hi ⟨e0,e4,⟨n,e3,hn0,hn1,hf⟩,rfl⟩;rcases zN i s.length with hlt | hge
 ·obtain⟨c,hc,hc'⟩:=aN hlt;have ew:=aB (i:=i) (by omega);have hltI:(i:Int)<s.length:=by omega
  rw [bF hc,Kh] at hf;rw [hf];by_cases c1:c.toNat<48
  ·have c1':(c.toNat:Int)<48:=by omega
   rw [if_pos (.inl c1)];simp [au,e0,e3,e4,hlt,hltI,hc,hc',c1,c1']
  ·have c1': ¬(c.toNat:Int)<48:=by omega
   have c1l:(48:Int)≤c.toNat:=by omega
   have c1n:48≤c.toNat:=by omega
   by_cases c2:57<c.toNat
   ·have c2':(57:Int)<c.toNat:=by omega
    rw [if_pos (.inr c2)];simp [au,e0,e3,e4,hlt,hltI,hc,hc',c1,c1',c1l,c1n,c2,c2']
   ·have c2': ¬(57:Int)<c.toNat:=by omega
    have c2l:(c.toNat:Int)≤57:=by omega
    have c2n:c.toNat≤57:=by omega
    rw [if_neg (by omega)];rw [if_neg (by omega)] at hf;have w1:IntKind.u8.wrap ((c.toNat:Int) - 48)=(c.toNat:Int) - 48:=Us (by omega) (by omega);have w2:IntKind.i64.wrap ((c.toNat:Int) - 48)=(c.toNat:Int) - 48:=aD (by omega) (by omega);have w3:IntKind.i64.wrap (2*((c.toNat:Int) - 48))=2*((c.toNat:Int) - 48):=aD (by omega) (by omega);have hb:=Vs (decide (i % 2=0)) c1n c2n;have w4:IntKind.i64.wrap (n+BI (decide (i % 2=0)) c.toNat)=n+BI (decide (i % 2=0)) c.toNat:=aD (by omega) (by omega);have hpar:(!decide (i % 2=0))=decide ((i+1) % 2=0):=by
     rw [Bool.eq_iff_iff];simp;omega
    have hrem:((i:Int).tmod 2=0)=(i % 2=0):=by
     rw [Int.tmod_eq_emod_of_nonneg (by omega)];apply propext;omega
    rw [hpar] at hf ⊢;have fin: ∃k',i<k'∧k'≤s.length∧((i+1:Nat):Int)=(k':Int):=⟨i+1,by omega,by omega,rfl⟩;generalize hc64:(c.toNat:Int)=C at*;by_cases d1:i % 2=0
    ·by_cases d2:9<2*(C - 48)
     ·have hd:BI (decide (i % 2=0)) c.toNat=2*(C - 48) - 9:=by unfold BI;rw [hc64];simp [d1,d2]
      have w5:IntKind.i64.wrap (2*(C - 48) - 9)=2*(C - 48) - 9:=aD (by omega) (by omega);rw [hd] at w4 hf hb ⊢;simp [au,e0,e3,e4,hlt,hltI,hc,hc',c1,c1',c1l,c1n,c2,c2',c2l,c2n,hc64,w1,w2,w3,hrem,d1,d2,w5,w4,ew];exact⟨i+1,by omega,by omega,by omega,by omega,by omega,by simpa using hf.symm.trans (by rw [hf])⟩
     ·have hd:BI (decide (i % 2=0)) c.toNat=2*(C - 48):=by unfold BI;rw [hc64];simp [d1,d2]
      rw [hd] at w4 hf hb ⊢;simp [au,e0,e3,e4,hlt,hltI,hc,hc',c1,c1',c1l,c1n,c2,c2',c2l,c2n,hc64,w1,w2,w3,hrem,d1,d2,w4,ew];exact⟨i+1,by omega,by omega,by omega,by omega,by omega,by simpa using hf.symm.trans (by rw [hf])⟩
    ·have d2: ¬9<C - 48:=by omega
     have hd:BI (decide (i % 2=0)) c.toNat=C - 48:=by unfold BI;rw [hc64];simp [d1,d2]
     rw [hd] at w4 hf hb ⊢;simp [au,e0,e3,e4,hlt,hltI,hc,hc',c1,c1',c1l,c1n,c2,c2',c2l,c2n,hc64,w1,w2,w3,hrem,d1,d2,w4,ew];exact⟨i+1,by omega,by omega,by omega,by omega,by omega,by simpa using hf.symm.trans (by rw [hf])⟩
 ·have hge': ¬(i:Int)<s.length:=by omega
  rw [zH hge,Kh] at hf;simp [e0,e3,e4,hge',hf,Nat.not_lt.2 hge]
theorem L6 (s:Bytes):af Tryz.prog gl 62 [.str s] h fun v h'=>v= .int .i64 (Mw s)∧h'=h:=by
 refine af.data (by simp) (af.body Tryz.f62 _ mixed Tryz.func62 rfl rfl (by simp [Tryz.ntmps62]) ?_);unfold Mw;by_cases c1:s.length=12
 ·have c1':(s.length:Int)=12:=by omega
  rw [if_neg (by simpa using c1)];simp [c1,c1'];refine ay.pure _ (fun _=>Q8 s (by omega)) ?_;generalize Kh true 0 s=n;by_cases c2:n<0
  ·simp [au,c2]
  ·by_cases c3:n.tmod 10=0 <;> simp [au,c2,c3]
 ·have c1': ¬(s.length:Int)=12:=by omega
  rw [if_pos c1];simp [c1,c1']
theorem UO {d:Nat} (h:d<10):(([48,49,50,51,52,53,54,55,56,57]:Bytes).take (d+1)).drop d=[UInt8.ofNat (48+d)]:=by
 have: ∀d:Fin 10,(([48,49,50,51,52,53,54,55,56,57]:Bytes).take (d.val+1)).drop d.val=[UInt8.ofNat (48+d.val)]:=by decide
 exact this ⟨d,h⟩
set_option maxHeartbeats 2000000 in
theorem JU (n:Nat)(hn:n≤2147483648):af Tryz.prog gl 98 [.int .i64 n] h fun v h'=>v= .str (FZ n)∧h'=h:=by
 refine af.data (by simp) (af.body Tryz.f98 _ mixed Tryz.func98 rfl rfl (by simp [Tryz.ntmps98]) ?_);by_cases c0:n=0
 ·subst c0;simp [FZ]
 ·have hM:FZ n=zU n:=by rw [FZ,if_neg c0]
  rw [hM];have c0': ¬(n:Int)=0:=by omega
  have hneg: ¬(n:Int)<0:=by omega
  have hneg':(0:Int)≤n:=by omega
  simp [c0,c0'];refine aW.down mixed (fun m fr H=>fr 0= .int .i64 n∧fr 4= .int .i64 m∧(∃s:Bytes,fr 3= .str s∧zU n=zU m++s∧s.length+m≤n)∧h=H) n
   ⟨by simp,by simp,⟨[],by simp,by simp,by simp⟩,rfl⟩ ?_
  rintro m fr H ⟨e0,e4,⟨s,e3,hf,hsl⟩,rfl⟩;by_cases c1:m=0
  ·subst c1;rw [qR,List.nil_append] at hf;simp [e0,e3,e4,hneg,hneg',hf]
  ·have c1': ¬(m:Int)=0:=by omega
   have hr:(m:Int).tmod 10=((m % 10:Nat):Int):=by rw [Int.tmod_eq_emod_of_nonneg (by omega)];omega
   have hq:(m:Int).tdiv 10=((m / 10:Nat):Int):=by rw [Int.tdiv_eq_ediv_of_nonneg (by omega)];omega
   have wq:IntKind.i64.wrap ((m / 10:Nat):Int)=((m / 10:Nat):Int):=aD (by omega) (by omega);have hd10:m % 10<10:=Nat.mod_lt _ (by omega);have hdc:=UO hd10;rw [yx c1] at hf;have hdv:m / 10<m:=by omega
   generalize m / 10=Q at*;generalize m % 10=D at*;have w1:IntKind.i64.wrap ((D:Int)+1)=((D+1:Nat):Int):=by rw [aD (by omega) (by omega)];omega
   have hD0: ¬(D:Int)<0:=by omega
   have hD0':(0:Int)≤D:=by omega
   have hD9:D+1≤10:=by omega
   have hD9I:((D:Int)+1)≤10:=by omega
   have hT1:((D:Int)+1).toNat=D+1:=by omega
   have hsx:s.length+1≤9223372036854775807:=by omega
   simp [-Int.natCast_add,au,e0,e3,e4,c1,c1',hr,hq,wq,w1,hD0,hD0',hD9,hD9I,hT1];have hdc2:List.drop D (48::List.take D [49,50,51,52,53,54,55,56,57])=[UInt8.ofNat (48+D)]:=by rw [←hdc,List.take_succ_cons]
   refine⟨by omega,by omega,Q,by omega,rfl,?_,by omega⟩;rw [hdc2,hf,zK]
theorem TM (p:aC)(hp:p.Ok)(h0: ∀s∈p.srcs,s.dev.length≤100∧0≤s.seq∧s.seq≤2147483648):af Tryz.prog gl 65 [.agg (aj p)] h fun v h'=>v= .str (Uu p)∧h'=h:=by
 refine af.data (by simp) (af.body Tryz.f65 _ mixed Tryz.func65 rfl rfl (by simp [Tryz.ntmps65]) ?_);have hsr:=hp.src;unfold Uu
 cases hs:p.srcs with
 | nil=>
  rw [hs] at hsr;simp [aj,hsr]
 | cons a r=>
  have ha:=h0 a (by rw [hs];simp);rw [hs] at hsr;obtain⟨n,hn⟩: ∃n:Nat,a.seq=n:=⟨a.seq.toNat,by omega⟩;have hl: ¬((r.length:Int)+1=0):=by omega
  have hf:(FZ n).length≤1000000000000:=by
   have hb: ∀n:Nat,(zU n).length≤n:=by
    intro n
    induction n using Nat.strongRecOn with
    | _ n ih=>
     by_cases c:n=0
     ·subst c;rw [qR];simp
     ·rw [yx c,List.length_append];have:=ih (n / 10) (by omega);simp;omega
   have:=hb n;unfold FZ;split
   ·simp
   ·omega
  have hl1:a.dev.length≤9223372036854775806:=by omega
  have hl2:a.dev.length+1+(FZ n).length≤9223372036854775807:=by omega
  simp [aj,hsr,cz,hl,hn,hl1];refine⟨by decide,?_⟩;refine ay.pure _ (fun _=>JU n (by omega)) ?_;simp [hl2]
def Zf (l:List kg)(i:Nat)(s:kg):Int:=if fE s.dev=false then 6 else if s.seq<0∨2147483648<s.seq then 2 else if i=0 then 0 else match l[i - 1]? with
  | none=>0
  | some r=>if 0≤fK r s then 15 else 0
set_option maxHeartbeats 1000000 in
theorem sP (l:List kg)(i:Nat) {s:kg} (hs:l[i]? =some s)(hl:l.length≤1000000)(hd: ∀s∈l,fU s.dev):af Tryz.prog gl 64 [.ro (l.map cz),.int .i64 i] h fun v h'=>v= .int .i64 (qp l i)∧h'=h:=by
 refine af.data (by simp) (af.body Tryz.f64 _ mixed Tryz.func64 rfl rfl (by simp [Tryz.ntmps64]) ?_);have hG:qp l i=Zf l i s:=by rw [qp,hs];rfl
 rw [hG];have hlt:=aK hs;have hs':=(zA.1 hs).2;unfold Zf;simp [cz,hs,hs',hlt];refine ay.pure _ (fun _=>sO s.dev) ?_
 cases hn:fE s.dev with
 | false=>simp [au,cz,hs,hs',hlt]
 | true=>
  by_cases c1:s.seq<0
  ·simp [au,cz,hs,hs',hlt,c1]
  by_cases c2:2147483648<s.seq
  ·simp [au,cz,hs,hs',hlt,c1,c2]
  cases i with
  | zero=>
   simp [au,cz,hs,hs',hlt,c1,c2];refine⟨by decide,?_⟩;refine ay.pure (.int .i64 0) (fun c=>by cases c) ?_;simp [au]
  | succ j=>
   obtain⟨r,hr,hr'⟩:=aN (l:=l) (i:=j) (by omega);have hjl:j<l.length:=by omega
   have w2:IntKind.i64.wrap (((j+1:Nat):Int) - 1)=(j:Int):=by rw [aD (by omega) (by omega)];omega
   have hjp:(0:Int)<((j+1:Nat):Int):=by omega
   simp [-Int.natCast_add,au,cz,hs,hs',hlt,c1,c2,hr,hr',hjl,w2,hjp];refine⟨by decide,?_⟩;refine ay.pure _ (fun _=>by simpa [cz] using wS r s (hd r (zF hr))) ?_;by_cases c3:0≤fK r s <;> simp [au,c3]
set_option maxHeartbeats 2000000 in
theorem L8 (n:bv)(p:aC)(hp:p.Ok)(hsl:p.srcs.length≤1000000)(hpl:p.plate.length≤2000000)(hnp:n.pts.length≤1000)(hnl:n.lks.length≤1000):
  af Tryz.prog gl 31 [.agg (aj p),.agg (bE n)] h fun v h'=>v= .int .i64 (uW n p)∧h'=h:=by
 refine af.data (by simp) (af.body Tryz.f31 _ mixed Tryz.func31 rfl rfl (by simp [Tryz.ntmps31]) ?_);have hsr:=hp.src;have F:=fun H:ak=>bJ (gl:=gl) (h:=H) n p.point hnp hnl;have T:=fun H:ak=>jB (gl:=gl) (h:=H) p.time;have C:=fun H:ak=>L6 (gl:=gl) (h:=H) p.tag;have NV:=fun H:ak=>JW (gl:=gl) (h:=H) p.plate hpl;have ID:=fun (H:ak) h0=>TM (gl:=gl) (h:=H) p hp h0;obtain⟨NB,NE,hNV⟩: ∃NB NE,yK p.plate=(NB,NE):=⟨_,_,rfl⟩;rw [hNV] at NV;obtain⟨E,hE⟩: ∃E,uW n p=E:=⟨_,rfl⟩;have hE':=hE;unfold uW at hE';rw [hNV] at hE';rw [hE];simp [aj,bE];refine ay.pure _ (fun _=>F _) ?_;by_cases k1:(bH n p.point).isSome=false
 ·rw [if_pos k1] at hE';subst hE';simp [k1]
 have k1':(bH n p.point).isSome=true:=by
  cases hk:(bH n p.point).isSome with
  | true=>rfl
  | false=>exact absurd hk k1
 rw [if_neg k1] at hE';simp [aj,k1'];refine ay.pure _ (fun _=>T _) ?_;by_cases k2:bS p.time=false
 ·rw [if_pos k2] at hE';subst hE';simp [k2]
 have k2':bS p.time=true:=by simpa using k2
 rw [if_neg k2] at hE';by_cases k3:p.tag=[]∧p.plate=[]
 ·rw [if_pos k3] at hE';subst hE';obtain⟨c1,c2⟩:=k3;simp [au,aj,k2',c1,c2]
 rw [if_neg k3] at hE';by_cases t1:p.tag=[]
 ·have t2: ¬p.plate=[]:=fun e=>k3 ⟨t1,e⟩;rw [if_neg (fun e=>e.1 t1)] at hE';simp [au,aj,k2',t1,t2];refine ay.pure (.int .i64 0) (fun c=>by cases c) ?_;simp [au,aj,k2',t1,t2];refine ay.pure _ (fun _=>NV _) ?_;by_cases u1:NE=0
  ·by_cases u2:NB=p.plate
   ·rw [if_neg (fun e=>by rcases e.2 with e | e;exact e u1;exact e u2)] at hE';by_cases n6:p.cls<0∨9<p.cls
    ·rw [if_pos n6] at hE';subst hE';by_cases v1:p.cls<0
     ·simp [au,aj,k2',t1,t2,u1,u2,v1]
     ·have v2:9<p.cls:=by omega
      simp [au,aj,k2',t1,t2,u1,u2,v1,v2]
    rw [if_neg n6] at hE';have v1: ¬p.cls<0:=by omega
    have v2: ¬9<p.cls:=by omega
    have v1':0≤p.cls:=by omega
    have v2':p.cls≤9:=by omega
    by_cases n7:p.score<0∨1000<p.score
    ·rw [if_pos n7] at hE';subst hE';by_cases w1:p.score<0
     ·simp [au,aj,k2',t1,t2,u1,u2,v1,v2,v1',v2',w1]
     ·have w2:1000<p.score:=by omega
      simp [au,aj,k2',t1,t2,u1,u2,v1,v2,v1',v2',w1,w2]
    rw [if_neg n7] at hE';have w1: ¬p.score<0:=by omega
    have w2: ¬1000<p.score:=by omega
    have w1':0≤p.score:=by omega
    have w2':p.score≤1000:=by omega
    by_cases n8:p.srcs.length<1∨24<p.srcs.length
    ·rw [if_pos n8] at hE';subst hE';by_cases x1:p.srcs.length<1
     ·have x0:p.srcs=[]:=List.eq_nil_of_length_eq_zero (by omega);simp [au,aj,k2',t1,t2,u1,u2,v1,v2,v1',v2',w1,w2,w1',w2',hsr,x0]
     ·have x2:24<p.srcs.length:=by omega
      have x3: ¬(p.srcs.length:Int)<1:=by omega
      have x4:(24:Int)<p.srcs.length:=by omega
      have x5: ¬p.srcs=[]:=fun e=>by rw [e] at x1;exact x1 (by decide)
      simp [au,aj,k2',t1,t2,u1,u2,v1,v2,v1',v2',w1,w2,w1',w2',hsr,x2,x3,x4,x5]
    rw [if_neg n8] at hE';have x3: ¬(p.srcs.length:Int)<1:=by omega
    have x3':(1:Int)≤p.srcs.length:=by omega
    have x4: ¬(24:Int)<p.srcs.length:=by omega
    have x4':(p.srcs.length:Int)≤24:=by omega
    have x5: ¬p.srcs=[]:=fun e=>by rw [e] at n8;exact n8 (.inl (by decide))
    have x6: ¬24<p.srcs.length:=by omega
    simp [au,aj,k2',t1,t2,u1,u2,v1,v2,v1',v2',w1,w2,w1',w2',hsr,x3,x3',x4,x4',x5,x6];refine aW.up mixed p.srcs.length (fun i fr H=>fr 2= .ptr h.length 0 0∧fr 9= .int .i64 i∧nA p.srcs=dE (((List.range p.srcs.length).map (qp p.srcs)).drop i)∧H[h.length]? =some (.cells 8 [aj p])∧ ∃g,H=h++g) 0 (by omega)
     ⟨by simp,by simp,by simp [nA],by simp [au,aj,k2',t1,t2,u1,u2,hsr],_,rfl⟩ ?_
    rintro i fr H hi ⟨e2,e9,hf,hX,hB⟩;have hX3:=at3 hX;simp only [aj,hsr] at hX3;rcases zN i p.srcs.length with hlt | hge
    ·obtain⟨s,hs,hs'⟩:=aN hlt;have ew:=aB (i:=i) (by omega);have hltI:(i:Int)<p.srcs.length:=by omega
     have hst:=nM (l:=(List.range p.srcs.length).map (qp p.srcs)) (i:=i) (x:=qp p.srcs i) (by simp [hlt]);simp [e2,e9,hX3,hlt,hltI];refine ay.pure _ (fun _=>sP p.srcs i hs hsl (fun s hs=>hp.dev s hs)) ?_;by_cases y1:qp p.srcs i=0
     ·rw [if_neg (by simpa using y1)] at hst;simp [e2,e9,y1,ew];exact⟨i+1,by omega,by omega,by omega,hf.trans hst,hX,hB⟩
     ·rw [if_pos y1] at hst;have y2:nA p.srcs=qp p.srcs i:=hf.trans hst;rw [if_pos (by rw [y2];exact y1),y2] at hE';subst hE';simp [e2,e9,y1];exact hB
    ·obtain rfl:i=p.srcs.length:=by omega
     rw [zH (by simp)] at hf;have y0:nA p.srcs=0:=hf;rw [if_neg (by rw [y0];simp)] at hE';have hID:=ID H (fun s hs=>by
      obtain⟨j,hj,rfl⟩:=List.mem_iff_getElem.1 hs;have:=src_ok y0 (zB hj);refine⟨?_,this.2⟩;have h1:=this.1;unfold fE at h1;simp at h1;omega)
     simp only [aj,hsr] at hID;have hge': ¬(p.srcs.length:Int)<p.srcs.length:=by omega
     simp [au,e2,e9,hX3];refine⟨by decide,?_⟩;refine ay.pure _ (fun _=>hID) ?_;by_cases z1:p.id=Uu p
     ·rw [if_neg (by simpa using z1)] at hE';subst hE';simp [←z1];exact hB
     ·rw [if_pos z1] at hE';subst hE';simp [z1];exact hB
   ·rw [if_pos ⟨t2,.inr u2⟩] at hE';subst hE';simp [au,aj,k2',t1,t2,u1,u2]
  ·rw [if_pos ⟨t2,.inl u1⟩] at hE';subst hE';simp [au,aj,k2',t1,t2,u1]
 ·by_cases t3:Mw p.tag=0
  ·rw [if_neg (fun e=>e.2 t3)] at hE';simp [au,aj,k2',t1];refine ay.pure _ (fun _=>C _) ?_;simp [au,aj,k2',t1,t3];refine ay.pure _ (fun _=>NV _) ?_;by_cases t2:p.plate=[]
   ·rw [if_neg (fun e=>e.1 t2)] at hE';by_cases n6:p.cls<0∨9<p.cls
    ·rw [if_pos n6] at hE';subst hE';by_cases v1:p.cls<0
     ·simp [au,aj,k2',t1,t2,t3,v1]
     ·have v2:9<p.cls:=by omega
      simp [au,aj,k2',t1,t2,t3,v1,v2]
    rw [if_neg n6] at hE';have v1: ¬p.cls<0:=by omega
    have v2: ¬9<p.cls:=by omega
    have v1':0≤p.cls:=by omega
    have v2':p.cls≤9:=by omega
    by_cases n7:p.score<0∨1000<p.score
    ·rw [if_pos n7] at hE';subst hE';by_cases w1:p.score<0
     ·simp [au,aj,k2',t1,t2,t3,v1,v2,v1',v2',w1]
     ·have w2:1000<p.score:=by omega
      simp [au,aj,k2',t1,t2,t3,v1,v2,v1',v2',w1,w2]
    rw [if_neg n7] at hE';have w1: ¬p.score<0:=by omega
    have w2: ¬1000<p.score:=by omega
    have w1':0≤p.score:=by omega
    have w2':p.score≤1000:=by omega
    by_cases n8:p.srcs.length<1∨24<p.srcs.length
    ·rw [if_pos n8] at hE';subst hE';by_cases x1:p.srcs.length<1
     ·have x0:p.srcs=[]:=List.eq_nil_of_length_eq_zero (by omega);simp [au,aj,k2',t1,t2,t3,v1,v2,v1',v2',w1,w2,w1',w2',hsr,x0]
     ·have x2:24<p.srcs.length:=by omega
      have x3: ¬(p.srcs.length:Int)<1:=by omega
      have x4:(24:Int)<p.srcs.length:=by omega
      have x5: ¬p.srcs=[]:=fun e=>by rw [e] at x1;exact x1 (by decide)
      simp [au,aj,k2',t1,t2,t3,v1,v2,v1',v2',w1,w2,w1',w2',hsr,x2,x3,x4,x5]
    rw [if_neg n8] at hE';have x3: ¬(p.srcs.length:Int)<1:=by omega
    have x3':(1:Int)≤p.srcs.length:=by omega
    have x4: ¬(24:Int)<p.srcs.length:=by omega
    have x4':(p.srcs.length:Int)≤24:=by omega
    have x5: ¬p.srcs=[]:=fun e=>by rw [e] at n8;exact n8 (.inl (by decide))
    have x6: ¬24<p.srcs.length:=by omega
    simp [au,aj,k2',t1,t2,t3,v1,v2,v1',v2',w1,w2,w1',w2',hsr,x3,x3',x4,x4',x5,x6];refine aW.up mixed p.srcs.length (fun i fr H=>fr 2= .ptr h.length 0 0∧fr 9= .int .i64 i∧nA p.srcs=dE (((List.range p.srcs.length).map (qp p.srcs)).drop i)∧H[h.length]? =some (.cells 8 [aj p])∧ ∃g,H=h++g) 0 (by omega)
     ⟨by simp,by simp,by simp [nA],by simp [au,aj,k2',t1,t2,t3,hsr],_,rfl⟩ ?_
    rintro i fr H hi ⟨e2,e9,hf,hX,hB⟩;have hX3:=at3 hX;simp only [aj,hsr] at hX3;rcases zN i p.srcs.length with hlt | hge
    ·obtain⟨s,hs,hs'⟩:=aN hlt;have ew:=aB (i:=i) (by omega);have hltI:(i:Int)<p.srcs.length:=by omega
     have hst:=nM (l:=(List.range p.srcs.length).map (qp p.srcs)) (i:=i) (x:=qp p.srcs i) (by simp [hlt]);simp [e2,e9,hX3,hlt,hltI];refine ay.pure _ (fun _=>sP p.srcs i hs hsl (fun s hs=>hp.dev s hs)) ?_;by_cases y1:qp p.srcs i=0
     ·rw [if_neg (by simpa using y1)] at hst;simp [e2,e9,y1,ew];exact⟨i+1,by omega,by omega,by omega,hf.trans hst,hX,hB⟩
     ·rw [if_pos y1] at hst;have y2:nA p.srcs=qp p.srcs i:=hf.trans hst;rw [if_pos (by rw [y2];exact y1),y2] at hE';subst hE';simp [e2,e9,y1];exact hB
    ·obtain rfl:i=p.srcs.length:=by omega
     rw [zH (by simp)] at hf;have y0:nA p.srcs=0:=hf;rw [if_neg (by rw [y0];simp)] at hE';have hID:=ID H (fun s hs=>by
      obtain⟨j,hj,rfl⟩:=List.mem_iff_getElem.1 hs;have:=src_ok y0 (zB hj);refine⟨?_,this.2⟩;have h1:=this.1;unfold fE at h1;simp at h1;omega)
     simp only [aj,hsr] at hID;have hge': ¬(p.srcs.length:Int)<p.srcs.length:=by omega
     simp [au,e2,e9,hX3];refine⟨by decide,?_⟩;refine ay.pure _ (fun _=>hID) ?_;by_cases z1:p.id=Uu p
     ·rw [if_neg (by simpa using z1)] at hE';subst hE';simp [←z1];exact hB
     ·rw [if_pos z1] at hE';subst hE';simp [z1];exact hB
   by_cases u1:NE=0
   ·by_cases u2:NB=p.plate
    ·rw [if_neg (fun e=>by rcases e.2 with e | e;exact e u1;exact e u2)] at hE';by_cases n6:p.cls<0∨9<p.cls
     ·rw [if_pos n6] at hE';subst hE';by_cases v1:p.cls<0
      ·simp [au,aj,k2',t1,t3,t2,u1,u2,v1]
      ·have v2:9<p.cls:=by omega
       simp [au,aj,k2',t1,t3,t2,u1,u2,v1,v2]
     rw [if_neg n6] at hE';have v1: ¬p.cls<0:=by omega
     have v2: ¬9<p.cls:=by omega
     have v1':0≤p.cls:=by omega
     have v2':p.cls≤9:=by omega
     by_cases n7:p.score<0∨1000<p.score
     ·rw [if_pos n7] at hE';subst hE';by_cases w1:p.score<0
      ·simp [au,aj,k2',t1,t3,t2,u1,u2,v1,v2,v1',v2',w1]
      ·have w2:1000<p.score:=by omega
       simp [au,aj,k2',t1,t3,t2,u1,u2,v1,v2,v1',v2',w1,w2]
     rw [if_neg n7] at hE';have w1: ¬p.score<0:=by omega
     have w2: ¬1000<p.score:=by omega
     have w1':0≤p.score:=by omega
     have w2':p.score≤1000:=by omega
     by_cases n8:p.srcs.length<1∨24<p.srcs.length
     ·rw [if_pos n8] at hE';subst hE';by_cases x1:p.srcs.length<1
      ·have x0:p.srcs=[]:=List.eq_nil_of_length_eq_zero (by omega);simp [au,aj,k2',t1,t3,t2,u1,u2,v1,v2,v1',v2',w1,w2,w1',w2',hsr,x0]
      ·have x2:24<p.srcs.length:=by omega
       have x3: ¬(p.srcs.length:Int)<1:=by omega
       have x4:(24:Int)<p.srcs.length:=by omega
       have x5: ¬p.srcs=[]:=fun e=>by rw [e] at x1;exact x1 (by decide)
       simp [au,aj,k2',t1,t3,t2,u1,u2,v1,v2,v1',v2',w1,w2,w1',w2',hsr,x2,x3,x4,x5]
     rw [if_neg n8] at hE';have x3: ¬(p.srcs.length:Int)<1:=by omega
     have x3':(1:Int)≤p.srcs.length:=by omega
     have x4: ¬(24:Int)<p.srcs.length:=by omega
     have x4':(p.srcs.length:Int)≤24:=by omega
     have x5: ¬p.srcs=[]:=fun e=>by rw [e] at n8;exact n8 (.inl (by decide))
     have x6: ¬24<p.srcs.length:=by omega
     simp [au,aj,k2',t1,t3,t2,u1,u2,v1,v2,v1',v2',w1,w2,w1',w2',hsr,x3,x3',x4,x4',x5,x6];refine aW.up mixed p.srcs.length (fun i fr H=>fr 2= .ptr h.length 0 0∧fr 9= .int .i64 i∧nA p.srcs=dE (((List.range p.srcs.length).map (qp p.srcs)).drop i)∧H[h.length]? =some (.cells 8 [aj p])∧ ∃g,H=h++g) 0 (by omega)
      ⟨by simp,by simp,by simp [nA],by simp [au,aj,k2',t1,t3,t2,u1,u2,hsr],_,rfl⟩ ?_
     rintro i fr H hi ⟨e2,e9,hf,hX,hB⟩;have hX3:=at3 hX;simp only [aj,hsr] at hX3;rcases zN i p.srcs.length with hlt | hge
     ·obtain⟨s,hs,hs'⟩:=aN hlt;have ew:=aB (i:=i) (by omega);have hltI:(i:Int)<p.srcs.length:=by omega
      have hst:=nM (l:=(List.range p.srcs.length).map (qp p.srcs)) (i:=i) (x:=qp p.srcs i) (by simp [hlt]);simp [e2,e9,hX3,hlt,hltI];refine ay.pure _ (fun _=>sP p.srcs i hs hsl (fun s hs=>hp.dev s hs)) ?_;by_cases y1:qp p.srcs i=0
      ·rw [if_neg (by simpa using y1)] at hst;simp [e2,e9,y1,ew];exact⟨i+1,by omega,by omega,by omega,hf.trans hst,hX,hB⟩
      ·rw [if_pos y1] at hst;have y2:nA p.srcs=qp p.srcs i:=hf.trans hst;rw [if_pos (by rw [y2];exact y1),y2] at hE';subst hE';simp [e2,e9,y1];exact hB
     ·obtain rfl:i=p.srcs.length:=by omega
      rw [zH (by simp)] at hf;have y0:nA p.srcs=0:=hf;rw [if_neg (by rw [y0];simp)] at hE';have hID:=ID H (fun s hs=>by
       obtain⟨j,hj,rfl⟩:=List.mem_iff_getElem.1 hs;have:=src_ok y0 (zB hj);refine⟨?_,this.2⟩;have h1:=this.1;unfold fE at h1;simp at h1;omega)
      simp only [aj,hsr] at hID;have hge': ¬(p.srcs.length:Int)<p.srcs.length:=by omega
      simp [au,e2,e9,hX3];refine⟨by decide,?_⟩;refine ay.pure _ (fun _=>hID) ?_;by_cases z1:p.id=Uu p
      ·rw [if_neg (by simpa using z1)] at hE';subst hE';simp [←z1];exact hB
      ·rw [if_pos z1] at hE';subst hE';simp [z1];exact hB
    ·rw [if_pos ⟨t2,.inr u2⟩] at hE';subst hE';simp [au,aj,k2',t1,t3,t2,u1,u2]
   ·rw [if_pos ⟨t2,.inl u1⟩] at hE';subst hE';simp [au,aj,k2',t1,t3,t2,u1]
  ·rw [if_pos ⟨t1,t3⟩] at hE';subst hE';simp [au,aj,k2',t1];refine ay.pure _ (fun _=>C _) ?_;simp [au,aj,k2',t1,t3];refine ay.pure _ (fun _=>C _) ?_;simp
end Go.Proofs.YtkpioblbeiaefaaGreat
end
section
namespace Go.Toll
open Go Go.Abs
def Ce:bn:=⟨⟨[⟨[111],1,[109]⟩],[]⟩,[⟨[109],false,3600⟩]⟩
def qc:aC:=⟨[99,49,46,53],[111],100,[],[65,66,49,50],2,0,[cz ⟨[99,49],5⟩]⟩
def BH:dB:=⟨[99,49,46,53],[65,66,49,50],[109],2,[⟨[111],100,[99,49,46,53]⟩]⟩
theorem Jc:bO [qc]=[qc]:=by kernel_rfl
theorem VD:(bY Ce [qc] [65,66,49,50]).trips=[BH]:=by kernel_rfl
theorem RU:(bY Ce [qc] [65,66,49,50]).out=[]:=by kernel_rfl
theorem RX:sZ [qc]=[65,66,49,50]:=by kernel_rfl
theorem Yv:tT [qc] [65,66,49,50]=[qc]:=by kernel_rfl
theorem UG:eX [qc]=[[65,66,49,50]]:=by
 have h:jW [qc] 1=[[65,66,49,50]]:=by kernel_rfl
 have:eX [qc]=ll (jW [qc] 1):=rfl;rw [this,h,ll];simp
theorem Wv:mo Ce BH=0:=by decide+kernel
theorem UF:mo Ce ⟨[],[],[],0,[]⟩=6:=by decide+kernel
end Go.Toll
end
