/- Part 25 of the lemmas below the statements of this seat: R21K, TollPassV. -/
import Derived.Test.YtkpioblbeiaefaaGreatPe15
set_option linter.unusedSectionVars false
set_option linter.unusedVariables false
set_option linter.unusedSimpArgs false
set_option linter.unnecessarySimpa false
set_option maxRecDepth 100000
section
namespace Go.Proofs.YtkpioblbeiaefaaGreat
open Go Go.Abs Go.Toll
variable {gl : aM} {h : ae}
def gD:Nat→Option (List (Nat×Nat)):=fun id=>if id=17 then some [(1,12),(3,12),(4,12),(6,12),(7,12)] else if id=21 then some [(1,14),(3,14),(6,14),(8,14),(9,14)] else none
theorem Dz {t:aZ} (hz:bN t=0) {s:Bytes} (h:kindOf t s≠0): ∃p,bS t.net s=some p∧kindOf t s=p.kind∧p.name=s:=by
 have hv:=kP hz;have hn:=eQ t;rw [hv] at hn;unfold kindOf at h ⊢;rw [hv] at h ⊢
 cases hf:bS t.net s with
 | none=>rw [hf] at h;exact absurd rfl h
 | some p=>
  refine⟨p,rfl,rfl,?_⟩;rw [bS,if_pos hn] at hf;simpa using List.find?_some hf
theorem rM {t:aZ}: ∀ {l:List bn} {b:Option bn},fO t b l=0→ ∀s∈l,kindOf t s.point≠0∧0≤s.time∧s.time<68719476736
 | [],_,_,s,hs=>by cases hs
 | a::l,b,h,s,hs=>by
  unfold fO at h;split at h
  ·cases h
  split at h
  ·cases h
  split at h
  ·cases h
  rcases List.mem_cons.1 hs with rfl | hs
  ·rename_i h1 h2 _;exact⟨h1,by omega,by omega⟩
  ·exact rM h s hs
theorem MB {t:aZ} {S:List bn}:(fQ S).all (fun s=>decide (kindOf t s.point=4))=true↔ ∀j s,1≤j→j+1<S.length→S[j]? =some s→kindOf t s.point=4:=by
 rw [List.all_eq_true];constructor
 ·intro h j s h1 h2 hs;have:=h s (by
   unfold fQ;rw [List.mem_iff_getElem?];refine⟨j - 1,?_⟩;rw [List.getElem?_drop,List.getElem?_take_of_lt (by omega),show 1+(j - 1)=j by omega];exact hs)
  simpa using this
 ·intro h s hs;unfold fQ at hs;rw [List.mem_iff_getElem?] at hs;obtain⟨j,hj⟩:=hs;rw [List.getElem?_drop,List.getElem?_take] at hj;split at hj
  ·exact decide_eq_true (h (1+j) s (by omega) (by omega) hj)
  ·cases hj
set_option maxHeartbeats 8000000 in
theorem Iu (t:aZ)(x:bQ)(hz:bN t=0)(hn:x.stops.length≤1000000)(hp:t.net.pts.length≤1000)(hl:t.net.lks.length≤1000)(hs:t.sys.length≤1000):
  aa Tryz.prog gl 19 [.agg (ay t),.agg (aB x)] h fun v h'=>v= .int .i64 (fu t x)∧h'=h:=by
 refine aa.data (by simp) (aa.bodyL gD Tryz.f19 _ mixed Tryz.func19 rfl rfl (by simp [Tryz.ntmps19]) ?_);by_cases c1:x.id=[]
 ·simp [gD,au,aB,fu,c1]
 by_cases c2:x.veh=[]
 ·simp [gD,au,aB,fu,c1,c2]
 have hE0:fu t x=if x.cls<1∨9<x.cls then 20 else match x.stops with
  | []=>1
  | a::l=>if fO t none (a::l)≠0 then fO t none (a::l) else jF t x a ((a::l).getLastD a):=by
  unfold fu;rw [if_neg (by intro c;rcases c with c | c;exact c1 c;exact c2 c)];all_goals rfl
 by_cases c3:x.cls<1
 ·rw [hE0,if_pos (.inl c3)];simp [gD,au,aB,c1,c2,c3]
 by_cases c4:9<x.cls
 ·rw [hE0,if_pos (.inr c4)];simp [gD,au,aB,c1,c2,c3,c4]
 rw [if_neg (by omega)] at hE0;by_cases c5:x.stops=[]
 ·rw [hE0,c5];simp [gD,au,aB,c1,c2,c3,c4,c5]
 have hpos:=List.length_pos_iff.2 c5;obtain⟨a,ha,ha'⟩:=aN hpos;obtain⟨b,hb,hb'⟩:=aN (l:=x.stops) (i:=x.stops.length - 1) (by omega);have hE:fu t x=if fO t none x.stops≠0 then fO t none x.stops else jF t x a b:=by
  rw [hE0]
  cases hx:x.stops with
  | nil=>exact absurd hx c5
  | cons a' l=>
   have e1:a'=a:=by rw [←ha'];simp [hx]
   have e2:(a'::l).getLastD a'=b:=by rw [←hx,List.getLastD_eq_getLast?,List.getLast?_eq_getElem?,hb];rfl
   subst e1;show (if _ then _ else jF t x a' ((a'::l).getLastD a'))=_;rw [e2]
 have h0: ¬((x.stops.length:Int)=0):=by omega
 have hlt:x.stops.length - 1<x.stops.length:=by omega
 have w1:IntKind.i64.wrap ((x.stops.length:Int) - 1)=((x.stops.length - 1:Nat):Int):=by rw [aD (by omega) (by omega)];omega
 rw [hE];clear hE0 hE;have unk:=fun (H:ae) (s:Bytes)=>CY (gl:=gl) (h:=H) t s hp hl hs;have knd:=fun (H:ae) (s:Bytes)=>Bz (gl:=gl) (h:=H) t s hp hl hs;simp only [ay] at unk knd;simp [gD,au,aB,c1,c2,c3,c4,c5,h0];refine aT.upL gD mixed x.stops.length (fun i fr H=>fr 2= .ptr h.length 0 0∧fr 3= .ptr (h.length+1) 0 0∧fr 5= .int .i64 i∧fO t none x.stops=fO t (vw x.stops i) (x.stops.drop i)∧H[h.length]? =some (.cells 3 [ay t])∧H[h.length+1]? =some (.cells 5 [aB x])∧ ∃g,H=h++g) 0 (by omega)
  ⟨by simp,by simp,by simp,by simp [vw],by simp,by simp [aB],_,rfl⟩ ?_
 rintro i fr H hi ⟨f2,f3,f5,hf,hT,hX,hB⟩;rw [hf];have hT3:=at3 hT;have hX3:=at3 hX;simp only [ay] at hT3;simp only [aB] at hX3;rcases zN i x.stops.length with hlt2 | hge
 ·obtain⟨s,hss,hss'⟩:=aN hlt2;have ew:=aC (i:=i) (by omega);have hltI:(i:Int)<x.stops.length:=by omega
  rw [BO hss] at hf ⊢;have hT3':=at3 (aL hT [.cells 3 [af s]]);have hX3':=at3 (aL hX [.cells 3 [af s]]);simp only [ay,af] at hT3';simp only [aB,af] at hX3';simp [gD,au,af,f2,f3,f5,hlt2,hltI,hss,hss',hT3,hX3,hT3',hX3'];refine ax.pure _ (fun _=>unk _ s.point) ?_;by_cases q1:kindOf t s.point=0
  ·simp [gD,au,q1,f2,f3];exact aF hB _
  by_cases q2:s.time<0
  ·simp [gD,au,q1,q2,f2,f3];exact aF hB _
  by_cases q3:68719476736≤s.time
  ·simp [gD,au,q1,q2,q3,f2,f3];exact aF hB _
  cases i with
  | zero=>
   have hbf:vw x.stops 0=none:=rfl;simp only [hbf,Option.any_none] at hf ⊢;simp [gD,au,q1,q2,q3,f2,f3,f5];refine⟨by decide,1,by omega,by omega,by decide,by simp,by simpa [af] using aL hT [.cells 3 [af s]],by simpa [af,aB] using aL hX [.cells 3 [af s]],aF hB _⟩
  | succ j=>
   obtain⟨y,hy,hy'⟩:=aN (l:=x.stops) (i:=j) (by omega);have hj:j<x.stops.length:=by omega
   have hbf:vw x.stops (j+1)=some y:=hy;simp only [hbf,Option.any_some] at hf ⊢;have w2:IntKind.i64.wrap (((j+1:Nat):Int) - 1)=(j:Int):=by rw [aD (by omega) (by omega)];omega
   have hjp:(0:Int)<((j+1:Nat):Int):=by omega
   by_cases q4:s.time<y.time
   ·simp [-Int.natCast_add,gD,au,af,q1,q2,q3,q4,f2,f3,f5,hy,hy',hj,w2,hjp,hX3,hX3',ew];exact⟨by decide,aF hB _⟩
   ·simp [-Int.natCast_add,gD,au,af,q1,q2,q3,q4,f2,f3,f5,hy,hy',hj,w2,hjp,hX3,hX3',ew];refine⟨by decide,j+1+1,by omega,by omega,rfl,rfl,by simpa [af] using aL hT [.cells 3 [af s]],by simpa [af,aB] using aL hX [.cells 3 [af s]],aF hB _⟩
 ·obtain rfl:i=x.stops.length:=by omega
  have hz0:fO t none x.stops=0:=by rw [hf,List.drop_length];rfl
  rw [List.drop_length];have hz2:fO t (vw x.stops x.stops.length) []=0:=rfl;rw [hz2,if_pos (rfl:(0:Int)=0)];obtain⟨ka,ra⟩:=rM hz0 a (zF ha);obtain⟨kb,rb⟩:=rM hz0 b (zF hb);obtain⟨p,hfp,hkp,hnp⟩:=Dz hz ka;obtain⟨q,hfq,hkq,hnq⟩:=Dz hz kb;have hpt:(bS t.net a.point).getD I9=p:=by rw [hfp];rfl
  have hqt:(bS t.net b.point).getD I9=q:=by rw [hfq];rfl
  have sa:iM t a.point=p.sys:=PX hz hfp;have sb:iM t b.point=q.sys:=PX hz hfq;have wd:IntKind.i64.wrap (b.time - a.time)=b.time - a.time:=aD (by omega) (by omega);have tid:=fun (H:ae)=>Iw (gl:=gl) (h:=H) x (y:= .ro (x.stops.map af)) (Rs.ro (FZ _)) hn;simp only [eX] at tid;have sya:=fun (H:ae)=>FN (gl:=gl) (h:=H) t a.point hp hl hs;simp only [ay] at sya;have fa:=fun (H:ae)=>mH (gl:=gl) (h:=H) t.net a.point hp hl;have fb:=fun (H:ae)=>mH (gl:=gl) (h:=H) t.net b.point hp hl;obtain⟨Y,hY⟩: ∃Y,(dQ t a.point).getD sys0=Y:=⟨_,rfl⟩;have hYm:wF t a.point=Y.most:=by rw [←hY];rfl
  rw [hY] at sya;have hTa:=fun g=>at3 (aL hT g);have hXa:=fun g=>at3 (aL hX g);simp only [ay] at hTa;simp only [aB] at hXa;simp [gD,au,af,f2,f3,f5,hT3,hX3,hpos,ha,ha'];refine⟨by decide,?_⟩;refine ax.pure _ (fun _=>fa _) ?_;simp [gD,au,af,eB,f2,f3,f5,hT3,hX3,hpos,ha,ha',hpt];refine⟨ax.pure _ (fun _=>fa _) (by simp [hpt,eB]),?_⟩;unfold jF;rw [sa,hYm];by_cases p1:x.sys=p.sys
  case neg=>
   simp [gD,au,f2,f3,hX3,p1];exact aF hB _
  have e6: ∀v,x.id≠v↔ ¬x.id=v:=fun _=>Iff.rfl;simp [gD,au,af,eB,f2,f3,hT3,hX3,hpos,ha,ha',p1,w1,hb,hb',hlt];refine⟨by decide,?_⟩;refine ax.pure _ (fun _=>fb _) ?_;simp [gD,au,af,eB,f2,f3,hT3,hX3,hpos,ha,ha',p1,w1,hb,hb',hlt,hqt];refine⟨ax.pure _ (fun _=>fb _) (by simp [hqt,eB]),?_⟩;have hBG: ∀g:ae,∃g',H++g=h++g':=fun g=>aF hB g;by_cases c6:x.stops.length=1
  ·have hsh:kX t x.stops a b=decide (p.kind=1):=by rw [kX,if_pos c6,hkp]
   rw [hsh];have c6': ¬(1:Int)<x.stops.length:=by omega
   have c6l:(x.stops.length:Int)≤1:=by omega
   have c6m: ¬(2:Int)≤x.stops.length:=by omega
   have c6n: ¬1<x.stops.length:=by omega
   have c6q:(x.stops.length:Int)<2:=by omega
   by_cases k1:p.kind=1
   ·simp [gD,au,af,f2,f3,hT3,hX3,hTa,hXa,p1,c6',c6l,c6m,c6n,k1];refine⟨by decide,?_⟩;refine ax.pure _ (fun _=>by simpa [p1] using tid _) ?_;by_cases c8:x.id=JF x
    ·simp [gD,au,←c8,f2,f3,c6l,c6n];exact hBG _
    ·simp [gD,au,c8,f2,f3,c6l,c6n];exact hBG _
   ·simp [gD,au,f2,f3,c6',c6l,c6m,c6n,c6q,k1];exact hBG _
  ·have c6':(1:Int)<x.stops.length:=by omega
   have c6l: ¬(x.stops.length:Int)≤1:=by omega
   have c6m:(2:Int)≤x.stops.length:=by omega
   have c6n:1<x.stops.length:=by omega
   have c6q: ¬(x.stops.length:Int)<2:=by omega
   have hsh:kX t x.stops a b=(decide (p.kind=2) && decide (q.kind=3) && decide (p.sys=q.sys) && (fQ x.stops).all fun s=>decide (kindOf t s.point=4)):=by rw [kX,if_neg c6,hkp,hkq,sa,sb]
   rw [hsh];by_cases k1:p.kind=2
   case neg=>
    simp [gD,au,f2,f3,c6',c6l,c6m,c6n,c6q,k1];exact hBG _
   by_cases k2:q.kind=3
   case neg=>
    simp [gD,au,f2,f3,c6',c6l,c6m,c6n,c6q,k1,k2];exact hBG _
   by_cases k3:q.sys=p.sys
   case neg=>
    have k3': ¬p.sys=q.sys:=fun e=>k3 e.symm;simp [gD,au,f2,f3,c6',c6l,c6m,c6n,c6q,k1,k2,k3,k3'];exact hBG _
   have k3':p.sys=q.sys:=k3.symm;have hsh2:(decide (p.kind=2) && decide (q.kind=3) && decide (p.sys=q.sys) && (fQ x.stops).all fun s=>decide (kindOf t s.point=4))=(fQ x.stops).all fun s=>decide (kindOf t s.point=4):=by simp [k1,k2,k3']
   rw [hsh2];have hin:=MB (t:=t) (S:=x.stops);generalize (fQ x.stops).all (fun s=>decide (kindOf t s.point=4))=I at*;obtain⟨N,hN⟩: ∃N:ae,H++[.cells 3 [eB p],.cells 3 [eB q]]=N:=⟨_,rfl⟩;have hTN:N[h.length]? =some (.cells 3 [ay t]):=by rw [←hN];exact aL hT _
   have hXN:N[h.length+1]? =some (.cells 5 [aB x]):=by rw [←hN];exact aL hX _
   have hPN:N[H.length]? =some (.cells 3 [eB p]):=by rw [←hN];simp
   have hBN: ∃g,N=h++g:=by rw [←hN];exact aF hB _
   have hTN3:=at3 hTN;have hXN3:=at3 hXN;have hPN3:=at3 hPN;simp only [ay] at hTN3;simp only [aB] at hXN3;simp only [eB] at hPN3;simp [gD,au,f2,f3,c6',c6l,c6m,c6n,c6q,k1,k2,k3];refine aT.upL gD mixed (x.stops.length - 1) (fun k fr H'=>fr 2= .ptr h.length 0 0∧fr 3= .ptr (h.length+1) 0 0∧fr 7= .ptr H.length 0 0∧fr 9= .int .i64 x.stops.length∧fr 12= .int .i64 k∧1≤k∧(∀j s,1≤j→j<k→x.stops[j]? =some s→kindOf t s.point=4)∧N=H') 1 (by omega)
    ⟨by simp [f2],by simp [f3],by simp,by simp,by simp,by omega,by intro j s h1 h2;omega,by rw [←hN];simp [eB,k1,k2,k3]⟩ ?_
   clear f2 f3 f5 hf hT3 hX3;rintro k fr H' hk ⟨f2,f3,f7,f9,f12,hk1,hall,rfl⟩;rcases zN k (x.stops.length - 1) with hkl | hkg
   ·obtain⟨s,hs1,hs2⟩:=aN (l:=x.stops) (i:=k) (by omega);have hkn:k<x.stops.length:=by omega
    have ewk:=aC (i:=k) (by omega);have hkI:(k:Int)<((x.stops.length - 1:Nat):Int):=by omega
    simp [gD,au,af,f2,f3,f7,f9,f12,w1,hkl,hkI,hkn,hs1,hs2,hTN3,hXN3];refine⟨by decide,?_⟩;refine ax.pure _ (fun _=>knd _ s.point) ?_;by_cases k4:kindOf t s.point=4
    ·simp [gD,au,f2,f3,f7,f9,f12,k4,ewk];refine⟨k+1,by omega,by omega,by omega,by omega,fun j y h1 h2 h3=> ?_⟩;rcases zN j k with hj | hj
     ·exact hall j y h1 hj h3
     ·obtain rfl:j=k:=by omega
      rw [hs1] at h3;cases h3;exact k4
    ·have hI:I=false:=by
      cases I with
      | false=>rfl
      | true=>exact absurd (hin.1 rfl k s hk1 (by omega) hs1) k4
     subst hI;simp [gD,au,f2,f3,f7,f9,f12,k4];exact hBN
   ·obtain rfl:k=x.stops.length - 1:=by omega
    have hI:I=true:=hin.2 fun j s h1 h2 h3=>hall j s h1 (by omega) h3;subst hI;have hNA:=fun g=>at3 (aL hTN g);have hXA:=fun g=>at3 (aL hXN g);simp only [ay] at hNA;simp only [aB] at hXA;simp [gD,au,f2,f3,f7,f9,f12,w1,hTN3,hPN3,hnp];refine ax.pure _ (fun _=>sya _) ?_;by_cases c7:Y.most<b.time - a.time
    ·simp [gD,au,dC,af,f2,f3,f7,f9,f12,w1,hXN3,hXA,ha,ha',hb,hb',hpos,hlt,wd,c6n,c7];exact⟨by decide,aF hBN _⟩
    ·simp [gD,au,dC,af,f2,f3,f7,f9,f12,w1,hXN3,hXA,ha,ha',hb,hb',hpos,hlt,wd,c6n,c7];refine⟨by decide,by decide,?_⟩;refine ax.pure _ (fun _=>by simpa [p1] using tid _) ?_;by_cases c8:x.id=JF x
     ·simp [gD,au,←c8,f2,f3];exact aF hBN _
     ·simp [gD,au,c8,f2,f3];exact aF hBN _
end Go.Proofs.YtkpioblbeiaefaaGreat
end
section
namespace Go.Toll
open Go Go.Abs
def RU (c:Nat):Nat:=if 97≤c∧c≤122 then c - 32 else c
def okB (c:Nat):Bool:=decide (65≤c∧c≤90) || decide (48≤c∧c≤57)
def tN:Bytes→Option Bytes
 | []=>some []
 | c::r=>if c.toNat=32∨c.toNat=45 then tN r else if okB (RU c.toNat)=true then (tN r).map fun l=>UInt8.ofNat (RU c.toNat)::l else none
def vV (s:Bytes):Bytes×Int:=match tN s with
 | none=>([],19)
 | some b=>if b.length<2∨10<b.length then ([],19) else (b,0)
def yC (ev:Bool)(c:Nat):Int:=if 9<(if ev=true then 2*((c:Int) - 48) else (c:Int) - 48) then (if ev=true then 2*((c:Int) - 48) else (c:Int) - 48) - 9 else (if ev=true then 2*((c:Int) - 48) else (c:Int) - 48)
def Ga:Bool→Int→Bytes→Int
 | _,n,[]=>n
 | ev,n,c::r=>if c.toNat<48∨57<c.toNat then -1 else Ga (!ev) (n+yC ev c.toNat) r
def IK (s:Bytes):Int:=if s.length≠12 then 18 else if Ga true 0 s<0∨(Ga true 0 s).tmod 10≠0 then 18 else 0
def wZ (n:Nat):Bytes:=if h:n=0 then [] else wZ (n / 10)++[UInt8.ofNat (48+n % 10)]
termination_by n
decreasing_by omega
theorem nZ:wZ 0=[]:=by rw [wZ];rfl
theorem vK {n:Nat} (h:n≠0):wZ n=wZ (n / 10)++[UInt8.ofNat (48+n % 10)]:=by rw [wZ,dif_neg h]
def CF (n:Nat):Bytes:=if n=0 then [48] else wZ n
def nI (l:List jk)(i:Nat):Int:=match l[i]? with
 | none=>0
 | some s=>if dZ s.dev=false then 6 else if s.seq<0∨2147483648<s.seq then 2 else if i=0 then 0 else match l[i - 1]? with
  | none=>0
  | some r=>if 0≤dU r s then 15 else 0
def ll (l:List jk):Int:=df ((List.range l.length).map (nI l))
theorem xR: ∀ {l:List Int},df l=0→ ∀x∈l,x=0
 | [],_,x,hx=>by cases hx
 | a::r,h,x,hx=>by
  rw [df] at h;by_cases c:a=0
  ·rw [if_neg (by simpa using c)] at h;rcases List.mem_cons.1 hx with rfl | hx
   ·exact c
   ·exact xR h x hx
  ·rw [if_pos c] at h;exact absurd h c
def Qg (p:aA):Bytes:=match p.srcs with
 | []=>[]
 | a::_=>a.dev++[46]++CF a.seq.toNat
def rz (n:bg)(p:aA):Int:=
 if (bS n p.point).isSome=false then 16
 else if bE p.time=false then 12
 else if p.tag=[]∧p.plate=[] then 1
 else if p.tag≠[]∧IK p.tag≠0 then IK p.tag
 else if p.plate≠[]∧((vV p.plate).2≠0∨(vV p.plate).1≠p.plate) then 19
 else if p.cls<0∨9<p.cls then 20
 else if p.score<0∨1000<p.score then 1
 else if p.srcs.length<1∨24<p.srcs.length then 3
 else if ll p.srcs≠0 then ll p.srcs
 else if p.id≠Qg p then 6 else 0
theorem src_ok {l:List jk} (h:ll l=0) {i:Nat} {s:jk} (hs:l[i]? =some s):dZ s.dev=true∧0≤s.seq∧s.seq≤2147483648:=by
 have h1:=xR h (nI l i) (List.mem_map.2 ⟨i,List.mem_range.2 (aK hs),rfl⟩);unfold nI at h1;rw [hs] at h1;simp only at h1;split at h1
 ·cases h1
 ·rename_i a;split at h1
  ·cases h1
  ·rename_i b;exact⟨by simpa using a,by omega,by omega⟩
theorem SV {p:aA} (h:p.srcs≠[]):Qg p≠[]:=by
 unfold Qg;split
 ·contradiction
 ·simp
theorem D8 {t : aZ} {p : aA} (h : rz t.net p = 0) (hz : bN t = 0) : uX t p ∧ p.srcs.length ≤ 24 ∧ p.id.length ≤ 1000 ∧ p.tag.length ≤ 12 := by
  unfold rz at h
  split at h
  · cases h
  rename_i a1
  split at h
  · cases h
  rename_i a2
  split at h
  · cases h
  rename_i a3
  split at h
  · rename_i a4; exact absurd h a4.2
  rename_i a4
  split at h
  · cases h
  split at h
  · cases h
  split at h
  · cases h
  split at h
  · cases h
  rename_i a8
  split at h
  · rename_i a9; exact absurd h a9
  rename_i a9
  split at h
  · cases h
  rename_i a10
  have e10 : p.id = Qg p := by simpa using a10
  have hne : p.srcs ≠ [] := fun e => a8 (.inl (by rw [e]; decide))
  refine ⟨⟨?_, by simpa using a2, ?_, ?_⟩, by omega, ?_, ?_⟩
  · have hv := kP hz
    have hn := eQ t
    rw [hv] at hn
    rw [bS, if_pos hn] at a1
    rw [aG, List.any_eq_true]
    cases hf : t.net.pts.find? fun q => decide (q.name = p.point) with
    | none => rw [hf] at a1; simp at a1
    | some q => exact ⟨q, List.mem_of_find?_eq_some hf, by simpa using List.find?_some hf⟩
  · rw [e10]; exact SV hne
  · by_cases c : p.tag = []
    · exact .inr fun e => a3 ⟨c, e⟩
    · exact .inl c
  · rw [e10]
    unfold Qg
    cases hsr : p.srcs with
    | nil => exact absurd hsr hne
    | cons s r =>
      have h0 : ll p.srcs = 0 := by simpa using a9
      have := src_ok h0 (i := 0) (s := s) (by rw [hsr]; rfl)
      have hnm : s.dev.length ≤ 12 := by
        have h1 := this.1
        unfold dZ at h1
        simp at h1
        exact h1.1.2
      have hf : ∀ n : Nat, (wZ n).length ≤ n := by
        intro n
        induction n using Nat.strongRecOn with
        | _ n ih =>
          by_cases c : n = 0
          · subst c; rw [nZ]; simp
          · rw [vK c, List.length_append]
            have := ih (n / 10) (by omega)
            simp
            omega
      have hf2 : ∀ k n : Nat, n < 10 ^ k → (wZ n).length ≤ k := by
        intro k
        induction k with
        | zero => intro n hn; have : n = 0 := by simpa using hn
                  subst this; rw [nZ]; simp
        | succ k ih =>
          intro n hn
          by_cases c : n = 0
          · subst c; rw [nZ]; simp
          · rw [vK c, List.length_append]
            have := ih (n / 10) (by rw [Nat.pow_succ] at hn; omega)
            simp
            omega
      have hl : (CF s.seq.toNat).length ≤ 20 := by
        unfold CF
        split
        · simp
        · exact hf2 20 _ (by have : s.seq.toNat ≤ 2147483648 := by omega
                             exact Nat.lt_of_le_of_lt this (by decide))
      simp
      omega
  · by_cases c : p.tag = []
    · rw [c]; simp
    · have h1 : IK p.tag = 0 := by
        by_cases d : IK p.tag = 0
        · exact d
        · exact absurd ⟨c, d⟩ a4
      unfold IK at h1
      split at h1
      · cases h1
      · rename_i h2; have : p.tag.length = 12 := by simpa using h2
        omega
end Go.Toll
end
