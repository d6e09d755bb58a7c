/- Part 13 of the lemmas below the statements of this seat: TollWalkL, TripD, Text, Pass17, TollPassO. -/
import Derived.Test.YtkpioblbeiaefaaGreatPr12
set_option linter.unusedSectionVars false
set_option linter.unusedVariables false
set_option linter.unusedSimpArgs false
set_option linter.unnecessarySimpa false
set_option maxRecDepth 100000
section
namespace Go.Toll
open Go Go.Abs
theorem EW (why:Int)(l:List aX):(eB why l).map (·.id)=bu l:=by simp [eB,bu]
theorem uo (a b:List aX):bu (a++b)=bu a++bu b:=by simp [bu]
def nN (w:bS):List Bytes:=w.trips.flatMap (fun x=>bu x.stops)++w.out.map (·.id)
section
variable {t : aY} {veh : Bytes} {cls : Bytes → Int}
theorem Ny (a:Bytes)(w:bS)(s:aX):(nN (lC t veh cls w s)).count a+(bu (lC t veh cls w s).opn).count a=(nN w).count a+(bu w.opn).count a+(bu [s]).count a:=by
 have hx: ∀l before,(kz t veh cls l before).stops=l:=fun _ _=>rfl;have hn:bu []=[]:=rfl;unfold lC;split <;> simp only [nN,List.flatMap_append,List.flatMap_cons,List.flatMap_nil,List.append_nil,List.map_append,List.count_append,EW,hx,uo,hn,List.count_nil] <;> omega
theorem step_count (a:Bytes)(w:bS)(s:aX):(nN (bV t veh cls w s)).count a+(bu (bV t veh cls w s).opn).count a=(nN w).count a+(bu w.opn).count a+(bu [s]).count a:=by
 rw [←Ny (t:=t) (veh:=veh) (cls:=cls) a w s];unfold bV;split <;> rfl
theorem Ga (a:Bytes): ∀(l:List aX) (w:bS),(nN (l.foldl (bV t veh cls) w)).count a+(bu (l.foldl (bV t veh cls) w).opn).count a=(nN w).count a+(bu w.opn).count a+(bu l).count a
 | [],w=>by simp [bu]
 | s::l,w=>by
  rw [List.foldl_cons,Ga a l,step_count];have:bu (s::l)=bu [s]++bu l:=uo [s] l;rw [this,List.count_append];omega
theorem K4 (a:Bytes)(w:bS):(nN (uO w)).count a=(nN w).count a+(bu w.opn).count a:=by
 simp only [uO,nN,List.map_append,List.count_append,EW];omega
theorem MI (a:Bytes)(w:bS)(l:List aX):(nN (Ky t veh cls w l)).count a=(nN w).count a+(bu w.opn).count a+(bu l).count a:=by
 rw [Ky,K4,Ga]
end
structure rF (t:aY)(s:aX):Prop where
 known:kindOf t s.point≠0
 time:0≤s.time∧s.time<68719476736
theorem Du {t:aY}: ∀ {l:List aX} {b:Option aX},(∀s∈l,rF t s)→(l.Pairwise fun x y=>x.time≤y.time)→(∀a,b=some a→ ∀s∈l,a.time≤s.time)→iM t b l=0
 | [],_,_,_,_=>rfl
 | s::l,b,h1,h2,h3=>by
  have hs:=h1 s (by simp);rw [List.pairwise_cons] at h2;rw [iM,if_neg hs.known,if_neg (by have:=hs.time;omega),if_neg]
  ·exact Du (fun x hx=>h1 x (by simp [hx])) h2.2 fun a e x hx=>by cases e;exact h2.1 x hx
  ·cases b with
   | none=>simp
   | some a=>have:=h3 a rfl s (by simp);simp;omega
theorem xq (l:List Int): ∀k:Nat,0≤qA l k∧qA l k≤k
 | 0=>by simp [qA]
 | k+1=>by
  have:=xq l k;rw [qA];split <;> omega
section
variable {t : aY} {veh : Bytes} {cls : Bytes → Int}
theorem Ki (l:List aX)(before:Bytes):(kz t veh cls l before).id≠[]∧(kz t veh cls l before).id=Le (kz t veh cls l before):=by
 unfold kz Le;simp only
 cases hp:bu l with
 | nil=>simp
 | cons a r=>
  have ha:a≠[]:=by
   have:a∈bu l:=by rw [hp];simp
   rw [bu,List.mem_map] at this;obtain⟨s,hs,rfl⟩:=this;have:=(List.mem_filter.1 hs).2;simpa [Vd] using this
  simp [ha]
def Gd (t:aY)(l:List aX):Prop:= ∀a r,l=a::r→kindOf t a.point=2∧ ∀s∈r,kindOf t s.point=4
theorem uR {α:Type} (a:α): ∀(l:List α) (b:α),(l++[b]).getLastD a=b
 | [],b=>rfl
 | x::l,b=>by rw [List.cons_append,List.getLastD_cons];exact uR x l b
theorem RJ (hv:veh≠[]) {s:aX} (hs:rF t s)(hk:kindOf t s.point=1)(before:Bytes):eP t (kz t veh cls [s] before)=0:=by
 obtain⟨h1,h2⟩:=Ki (t:=t) (veh:=veh) (cls:=cls) [s] before;have hm:=xq ((bu [s]).map cls) 9;have hst:iM t none [s]=0:=Du (by simpa using hs) (by simp) (by simp);unfold eP;rw [if_neg (by intro c;rcases c with c | c;exact h1 c;exact hv c),if_neg (by show ¬(max (Ac _) 1<1∨9<max (Ac _) 1);unfold Ac;omega)];show (if iM t none [s]≠0 then _ else kC t _ s s)=0;rw [if_neg (by rw [hst];simp)];unfold kC;rw [if_neg (by show ¬(jf t s.point≠jf t s.point);simp),if_neg (by show ¬lY t [s] s s=false;simp [lY,hk]),if_neg (by show ¬(1<[s].length∧_);simp),if_neg (by rw [←h2];simp)]
theorem RL (hv:veh≠[]) {a s:aX} {r:List aX} (hall: ∀x∈a::r++[s],rF t x)(hp:(a::r++[s]).Pairwise fun x y=>x.time≤y.time)(ho:Gd t (a::r))(hk:kindOf t s.point=3)
  (he:wU t (a::r) s=true) (before:Bytes):eP t (kz t veh cls (a::r++[s]) before)=0:=by
 obtain⟨h1,h2⟩:=Ki (t:=t) (veh:=veh) (cls:=cls) (a::r++[s]) before;have hm:=xq ((bu (a::r++[s])).map cls) 9;have hst:iM t none (a::r++[s])=0:=Du hall hp (by simp);obtain⟨k1,k2⟩:=ho a r rfl;simp only [wU,Bool.and_eq_true,decide_eq_true_eq] at he;have hl:(a::r++[s]).getLastD a=s:=uR a (a::r) s;have hin:jU (a::r++[s])=r:=by simp [jU]
 unfold eP;rw [if_neg (by intro c;rcases c with c | c;exact h1 c;exact hv c),if_neg (by show ¬(max (Ac _) 1<1∨9<max (Ac _) 1);unfold Ac;omega)];show (if iM t none (a::r++[s])≠0 then _ else kC t _ a ((a::r++[s]).getLastD a))=0;rw [if_neg (by rw [hst];simp),hl];unfold kC;rw [if_neg (by show ¬(jf t a.point≠jf t a.point);simp),if_neg,if_neg,if_neg (by rw [←h2];simp)]
 ·show ¬(1<(a::r++[s]).length∧xJ t a.point<s.time - a.time);omega
 ·show ¬lY t (a::r++[s]) a s=false;unfold lY;rw [if_neg (by simp),hin];simp [k1,hk,he.1];exact k2
structure IA (t:aY)(w:bS):Prop where
 trips: ∀x∈w.trips,eP t x=0
 opn:Gd t w.opn
 all: ∀x∈w.opn,rF t x
 asc:w.opn.Pairwise fun x y=>x.time≤y.time
theorem Ir {t:aY} {w:bS} (hw:IA t w)(l:List aX)(h1:Gd t l)(h2: ∀x∈l,rF t x)(h3:l.Pairwise fun x y=>x.time≤y.time) {w':bS} (e1:w'.trips=w.trips)(e2:w'.opn=l):IA t w':=
 ⟨fun x hx=>hw.trips x (by rw [←e1];exact hx),by rw [e2];exact h1,by rw [e2];exact h2,by rw [e2];exact h3⟩
theorem Qo (t:aY)(s:Bytes):0≤kindOf t s∧kindOf t s≤4:=by
 unfold kindOf
 cases hf:dF (aH t).net s with
 | none=>simp [KD]
 | some p=>
  rw [dF,if_pos (fE t)] at hf;have h1:=(jY (fE t) p (List.mem_of_find?_eq_some hf)).2;simp;omega
theorem Cy (t:aY):Gd t []:=fun a r h=>by cases h
theorem Uv (hv:veh≠[]) {w:bS} (hw:IA t w) {s:aX} (hs:rF t s)(hb: ∀x∈w.opn,x.time≤s.time):IA t (lC t veh cls w s):=by
 unfold lC;split
 ·rename_i h;have hk:kindOf t s.point=1:=by
   unfold mh at h;split at h
   ·assumption
   ·split at h
    ·cases h
    split at h
    ·split at h <;> cases h
    ·split at h <;> cases h
  refine⟨fun x hx=> ?_,hw.opn,hw.all,hw.asc⟩;rcases List.mem_append.1 hx with hx | hx
  ·exact hw.trips x hx
  ·obtain rfl:=List.mem_singleton.1 hx;exact RJ hv hs hk _
 ·rename_i h;have hk:kindOf t s.point=2:=by
   unfold mh at h;split at h
   ·cases h
   split at h
   ·assumption
   split at h
   ·split at h <;> cases h
   ·split at h <;> cases h
  exact Ir hw [s] (fun a r e=>by cases e;exact⟨hk,by simp⟩) (by simpa using hs) (by simp) rfl rfl
 ·rename_i h;have hk:kindOf t s.point=3∧wU t w.opn s=true:=by
   unfold mh at h;split at h
   ·cases h
   split at h
   ·cases h
   split at h
   ·split at h
    ·exact⟨by assumption,by assumption⟩
    ·cases h
   ·split at h <;> cases h
  refine⟨fun x hx=> ?_,Cy t,by simp,by simp⟩;rcases List.mem_append.1 hx with hx | hx
  ·exact hw.trips x hx
  ·obtain rfl:=List.mem_singleton.1 hx
   cases ho:w.opn with
   | nil=>rw [ho] at hk;simp [wU] at hk
   | cons a r=>
    have h1:=hw.opn;have h2:=hw.all;have h3:=hw.asc;rw [ho] at hb hk h1 h2 h3;refine RL hv (fun x hx=> ?_) (List.pairwise_append.2 ⟨h3,by simp,fun x hx' y hy=>by obtain rfl:=List.mem_singleton.1 hy;exact hb x hx'⟩) h1 hk.1 hk.2 _;rcases List.mem_append.1 hx with hx | hx
    ·exact h2 x hx
    ·obtain rfl:=List.mem_singleton.1 hx;exact hs
 ·rename_i h;have hk:kindOf t s.point=4∧w.opn≠[]:=by
   have hr:=Qo t s.point;have h0:=hs.known;unfold mh at h;split at h
   ·cases h
   split at h
   ·cases h
   split at h
   ·split at h <;> cases h
   ·split at h
    ·rename_i h1 h2 h3 h4;exact⟨by omega,h4.1⟩
    ·cases h
  refine Ir hw (w.opn++[s]) (fun a r e=> ?_) (fun x hx=> ?_) (List.pairwise_append.2 ⟨hw.asc,by simp,fun x hx' y hy=>by obtain rfl:=List.mem_singleton.1 hy;exact hb x hx'⟩) rfl rfl
  ·cases ho:w.opn with
   | nil=>exact absurd ho hk.2
   | cons a' r'=>
    rw [ho] at e;simp at e;obtain⟨rfl,rfl⟩:=e;obtain⟨k1,k2⟩:=hw.opn a' r' ho;refine⟨k1,fun x hx=> ?_⟩;rcases List.mem_append.1 hx with hx | hx
    ·exact k2 x hx
    ·obtain rfl:=List.mem_singleton.1 hx;exact hk.1
  ·rcases List.mem_append.1 hx with hx | hx
   ·exact hw.all x hx
   ·obtain rfl:=List.mem_singleton.1 hx;exact hs
 ·exact Ir hw [] (Cy t) (by simp) (by simp) rfl rfl
 ·exact Ir hw w.opn hw.opn hw.all hw.asc rfl rfl
theorem step_ok (hv:veh≠[]) {w:bS} (hw:IA t w) {s:aX} (hs:rF t s)(hb: ∀x∈w.opn,x.time≤s.time):IA t (bV t veh cls w s)∧ ∀x∈(bV t veh cls w s).opn,x.time≤s.time:=by
 have h1:=Uv (cls:=cls) hv hw hs hb;have h2: ∀x∈(lC t veh cls w s).opn,x.time≤s.time:=by
  unfold lC;split
  ·exact hb
  ·intro x hx;obtain rfl:=List.mem_singleton.1 hx;exact Int.le_refl _
  ·simp
  ·intro x hx;rcases List.mem_append.1 hx with hx | hx
   ·exact hb x hx
   ·obtain rfl:=List.mem_singleton.1 hx;exact Int.le_refl _
  ·simp
  ·exact hb
 unfold bV;split
 ·exact⟨h1,h2⟩
 ·exact⟨⟨h1.trips,h1.opn,h1.all,h1.asc⟩,h2⟩
theorem RQ (hv:veh≠[]): ∀(l:List aX) (w:bS),IA t w→(∀s∈l,rF t s)→(l.Pairwise fun x y=>x.time≤y.time)→(∀x∈w.opn,∀s∈l,x.time≤s.time)→IA t (l.foldl (bV t veh cls) w)
 | [],w,hw,_,_,_=>hw
 | s::l,w,hw,h1,h2,h3=>by
  rw [List.pairwise_cons] at h2;obtain⟨q1,q2⟩:=step_ok (cls:=cls) hv hw (h1 s (by simp)) fun x hx=>h3 x hx s (by simp);rw [List.foldl_cons];exact RQ hv l _ q1 (fun x hx=>h1 x (by simp [hx])) h2.2 fun x hx y hy=>Int.le_trans (q2 x hx) (h2.1 y hy)
end
end Go.Toll
end
section
namespace Go.Proofs.YtkpioblbeiaefaaGreat
open Go Go.Abs Go.Toll
variable {gl : aM} {h : af}
theorem Vp (l:List aX): ∀e∈l.map ak,e.length=3:=fun e he=>by
 obtain⟨m,_,rfl⟩:=List.mem_map.1 he;rfl
theorem Pn (l:List aX): ∀e∈l.map ak,∀y∈e,y.Data:=fun e he y hy=>by
 obtain⟨m,_,rfl⟩:=List.mem_map.1 he;simp [ak] at hy;rcases hy with rfl | rfl | rfl <;> simp
theorem Dn (l:List aX)(k:Nat)(hk:h[k]? =some (.cells 3 (l.map ak)))(hl:l.length≤1000000):aa Tryz.prog gl 143 [.own k 0 l.length] h fun v h'=>v= .ro (l.map ak)∧h'=h:=by
 refine aa.fresh' (aa.body Tryz.f143 _ mixed Tryz.func143 rfl rfl (by simp [Tryz.ntmps143]) ?_);have hr:Rs 3 h (.own k 0 l.length) (l.map ak):=by simpa using Rs.own hk (Vp l)
 simp [-aj,-au];refine aN (lo:=h.length) (n:=3) (es:=[]) (ys:=l.map ak) (Ls.own (by simp) (by omega) rfl (by simp)) (by simp) (jQ (hr.append _) (by simp) (by simp) (by simp)) (by simp;omega) ?_;intro s1 H1 hs1 hg1 hn1;have hs1f:=hs1.rs.fix;simp [-ah,-AV.solid,hs1f];exact⟨hg1.base h (by omega) ⟨_,rfl⟩,hs1.frz (Nat.le_refl _) (Pn _)⟩
theorem P9 (n:Int):aa Tryz.prog gl 172 [.int .i64 n] h fun v h'=>v= .bool (decide (1≤n∧n≤9))∧h'=h:=by
 refine aa.data (.bool _) (aa.body Tryz.f172 _ mixed Tryz.func172 rfl rfl (by simp [Tryz.ntmps172]) ?_);by_cases c:1≤n
 ·simp [c]
 ·simp [c]
def lT (l:List Int)(c:Nat):Int:=if c=0 then 0 else (qZ l c:Int)
def kX (l:List Int):List AV:=(List.range 10).map fun c=> .int .i64 (lT l c)
theorem pK (l:List Int) {c:Nat} (h:c<10):(kX l)[c]? =some (.int .i64 (lT l c)):=by simp [kX,h]
theorem tL (l:List Int):(kX l).length=10:=by simp [kX]
theorem x9 (l:List Int)(n c:Int):qZ (l++[n]) c=if n=c then qZ l c+1 else qZ l c:=by
 unfold qZ;rw [List.filter_append,List.length_append];by_cases e:n=c <;> simp [e]
theorem Rj (l:List Int) {n:Nat} (h0:1≤n)(h1:n<10):(kX l).set n (.int .i64 (lT l n+1))=kX (l++[(n:Int)]):=by
 refine List.ext_getElem? fun c=> ?_;rw [List.getElem?_set];by_cases e:n=c
 ·subst e;rw [if_pos rfl,if_pos (by rw [tL];exact h1),pK _ h1];unfold lT;rw [if_neg (by omega),if_neg (by omega),x9,if_pos rfl]
  push_cast
  rfl
 ·rw [if_neg e];rcases zN c 10 with q | q
  ·rw [pK _ q,pK _ q];unfold lT;split
   ·rfl
   ·rw [x9,if_neg (by omega)]
  ·rw [List.getElem?_eq_none (by rw [tL];exact q),List.getElem?_eq_none (by rw [tL];exact q)]
theorem O7 (l:List Int) {n:Int} (h: ¬(1≤n∧n≤9)):kX (l++[n])=kX l:=by
 unfold kX;refine List.map_congr_left fun c hc=> ?_;have hc':=List.mem_range.1 hc;unfold lT;split
 ·rfl
 ·rw [x9,if_neg (by omega)]
theorem Sl (l:List Int)(c:Int):qZ l c≤l.length:=List.length_filter_le _ _
def encI' (n:Int):List AV:=[.int .i64 n]
set_option maxHeartbeats 2000000 in
theorem Bh (l:List Int)(x:AV)(hx:Rs 1 h x (l.map encI'))(hl:l.length≤100000):aa Tryz.prog gl 144 [x] h fun v h'=>v= .int .i64 (Ac l)∧h'=h:=by
 refine aa.data (by simp) (aa.body Tryz.f144 _ mixed Tryz.func144 rfl rfl (by simp [Tryz.ntmps144]) ?_);have fx:=hx.fix;have lx:=(hx.append [.cells 10 [kX []]]).len2;have h0:kX []=[.int .i64 0,.int .i64 0,.int .i64 0,.int .i64 0,.int .i64 0,.int .i64 0,.int .i64 0,.int .i64 0,.int .i64 0,.int .i64 0]:=rfl;rw [h0] at lx;simp [fx,lx];refine aT.up mixed l.length (fun i fr H=>fr 3= .ptr h.length 0 0∧fr 9=x∧fr 10= .int .i64 l.length∧fr 11= .int .i64 i∧H=h++[.cells 10 [kX (l.take i)]]) 0 (by omega) ⟨by simp,by simp,by simp,by simp,by simp [h0]⟩ ?_;rintro i fr H hi ⟨e3,e9,e10,e11,rfl⟩;have hxH:=hx.append [.cells 10 [kX (l.take i)]];have fxH:=hxH.fix;have lxH:=hxH.len2;rcases zN i l.length with hlt | hge
 ·obtain⟨n,hn,hn'⟩:=aJ hlt;have ew:=aB (i:=i) (by omega);have rx:=Rs.ix Tryz.prog hxH i (by omega) (y:=encI' n) (by simp [hn]);simp only [encI'] at rx;have htk:l.take (i+1)=l.take i++[n]:=by rw [zM,hn];rfl
  simp [e3,e9,e10,e11,hlt,fxH,lxH,rx];refine ax.pure _ (fun _=>P9 n) ?_;by_cases c:1≤n∧n≤9
  ·obtain⟨k,rfl⟩: ∃k:Nat,n=k:=⟨n.toNat,by omega⟩;have hk1:1≤k:=by omega
   have hk9:k<10:=by omega
   have hk9':k≤9:=by omega
   have hg:=pK (l.take i) hk9;have hg':=(zA.1 hg).2;have hrl:=tL (l.take i);have hcn:=Sl (l.take i) k;have htl:=List.length_take_le i l;have hc0:lT (l.take i) k=(qZ (l.take i) k:Int):=by unfold lT;rw [if_neg (by omega)]
   have w1:IntKind.i64.wrap (lT (l.take i) k+1)=lT (l.take i) k+1:=aC (by omega) (by omega);have hset:=Rj (l.take i) hk1 hk9;have hset':(kX (l.take i)).take k++AV.int .i64 (lT (l.take i) k+1)::(kX (l.take i)).drop (k+1)=kX (l.take i++[(k:Int)]):=by
    rw [←hset,List.set_eq_take_append_cons_drop,if_pos (by rw [hrl];exact hk9)]
   simp [e3,e9,e10,e11,hk1,hk9,hk9',hg,hg',hrl,w1,hset,ew];exact⟨fun _ _=>⟨by omega,i+1,by omega,by omega,by omega,by rw [htk,←hset']⟩,fun hc=>absurd (hc (by omega)) (by omega)⟩
  ·have hsk:=O7 (l.take i) c;simp [e3,e9,e10,e11,c,ew];exact⟨i+1,by omega,by omega,by omega,by rw [htk,hsk]⟩
 ·obtain rfl:i=l.length:=by omega
  rw [List.take_length];have hrl:=tL l;have ht10:(kX l).take 10=kX l:=zG (by omega);simp [e3,e9,e10,e11,hrl,ht10];refine aT.up mixed 10 (fun i fr H=>fr 3= .ptr h.length 0 0∧fr 6= .int .i64 (qA l (i - 1))∧fr 23= .agg (kX l)∧fr 24= .int .i64 i∧H=h++[.cells 10 [kX l]]) 0 (by omega) ⟨by simp [e3],by simp [qA],by simp,by simp,rfl⟩ ?_;clear e3 e9 e10 e11;rintro i fr H hi ⟨e3,e6,e23,e24,rfl⟩;rcases zN i 10 with hlt | hge
  ·have ew:=aB (i:=i) (by omega);have hq:(i:Int)<10:=by omega
   have hg:=pK l hlt;have hg': ∀hh:i<(kX l).length,(kX l)[i]'hh= .int .i64 (lT l i):=fun _=>(zA.1 hg).2
   cases i with
   | zero=>
    have hg0:(kX l)[0]? =some (.int .i64 (lT l 0)):=hg;have hg0': ∀hh:0<(kX l).length,(kX l)[0]'hh= .int .i64 (lT l 0):=hg';simp [e3,e6,e23,e24,hg0,hg0',hrl];exact⟨1,by omega,by omega,by simp [qA],by decide⟩
   | succ j=>
    have hr:=xq l j;obtain⟨b,hb⟩: ∃b:Nat,qA l j=b:=⟨(qA l j).toNat,by omega⟩;have hb10:b<10:=by omega
    have hb10q:(b:Int)<10:=by omega
    have hgb:=pK l hb10;have hgb': ∀hh:b<(kX l).length,(kX l)[b]'hh= .int .i64 (lT l b):=fun _=>(zA.1 hgb).2;have hc1:lT l (j+1)=(qZ l ((j+1:Nat):Int):Int):=by unfold lT;rw [if_neg (by omega)]
    have hjp:(0:Int)<((j+1:Nat):Int):=by omega
    have hm:qA l (j+1)=if 0<qZ l ((j+1:Nat):Int)∧(qA l j=0∨qZ l (qA l j)<qZ l ((j+1:Nat):Int)) then ((j+1:Nat):Int) else qA l j:=rfl
    have e6':fr 6= .int .i64 b:=by rw [e6,Nat.add_sub_cancel,hb]
    rw [hb] at hm;have fin: ∀v:Int,qA l (j+1)=v→ ∃k',j+1<k'∧k'≤10∧v=qA l (k' - 1)∧((j+1+1:Nat):Int)=(k':Int):=fun v hv=>⟨j+1+1,by omega,by omega,hv.symm,rfl⟩;by_cases c1:0<qZ l ((j+1:Nat):Int)
    ·have c1':(0:Int)<lT l (j+1):=by rw [hc1];omega
     by_cases c2:b=0
     ·subst c2;rw [if_pos ⟨c1,.inl rfl⟩] at hm;simp [-Int.natCast_add,e3,e6',e23,e24,hlt,hq,hg,hg',hrl,hjp,c1',ew];simpa using fin _ hm
     ·have c2': ¬(b:Int)=0:=by omega
      have hcb:lT l b=(qZ l (b:Int):Int):=by unfold lT;rw [if_neg c2]
      by_cases c3:qZ l (b:Int)<qZ l ((j+1:Nat):Int)
      ·rw [if_pos ⟨c1,.inr c3⟩] at hm;have c3':lT l b<lT l (j+1):=by rw [hcb,hc1];omega
       simp [-Int.natCast_add,e3,e6',e23,e24,hlt,hq,hg,hg',hgb,hgb',hb10,hb10q,hrl,hjp,c1',c2,c2',c3',ew];simpa using fin _ hm
      ·rw [if_neg (by rintro⟨_,q | q⟩;exact c2' q;exact c3 q)] at hm;have c3': ¬lT l b<lT l (j+1):=by rw [hcb,hc1];omega
       simp [-Int.natCast_add,e3,e6',e23,e24,hlt,hq,hg,hg',hgb,hgb',hb10,hb10q,hrl,hjp,c1',c2,c2',c3',ew];simpa using fin _ hm
    ·have c1': ¬(0:Int)<lT l (j+1):=by rw [hc1];omega
     rw [if_neg (by rintro⟨q,_⟩;exact c1 q)] at hm;simp [-Int.natCast_add,e3,e6',e23,e24,hlt,hq,hg,hg',hrl,hjp,c1',ew];simpa using fin _ hm
  ·obtain rfl:i=10:=by omega
   simp [e3,e6,e23,e24];rfl
theorem gM (l:List Bytes): ∀e∈l.map aO,∀y∈e,y.Data:=by
 intro e he y hy;obtain⟨s,_,rfl⟩:=List.mem_map.1 he;simp [aO] at hy;subst hy;simp
theorem AP (l:List Bytes): ∀e∈l.map aO,e.length=1:=by
 intro e he;obtain⟨s,_,rfl⟩:=List.mem_map.1 he;rfl
theorem qF (a b:Bytes)(ha:eG a):aa Tryz.prog gl 92 [.str a,.str b] h fun v h'=>v= .bool (Op.bytesLess a b)∧h'=h:=by
 refine aa.data (.bool _) (aa.body Tryz.f92 _ mixed Tryz.func92 rfl rfl (by simp [Tryz.ntmps92]) ?_);unfold eG at ha;simp;refine aT.up mixed a.length (fun i fr h'=>fr 0= .str a∧fr 1= .str b∧fr 5= .int .i64 i∧i≤b.length∧Op.bytesLess a b=Op.bytesLess (a.drop i) (b.drop i)∧ ∃g,h'=h++g) 0 (by omega) ⟨by simp,by simp,by simp,by omega,by simp,[],by simp⟩ ?_;rintro i fr h' hi ⟨e0,e1,e5,hib,hf,g,rfl⟩;by_cases hlt:i<a.length∧i<b.length
 ·obtain⟨x,hx,hx'⟩:=aJ hlt.1;obtain⟨y,hy,hy'⟩:=aJ hlt.2;rw [Ox hx hy] at hf;have ew:IntKind.i64.wrap ((i:Int)+1)=((i+1:Nat):Int):=by rw [aC (by omega) (by omega)];omega
  have hl1:=hlt.1;have hl2:=hlt.2;simp [e0,e1,e5,hl1,hl2,hx,hx',hy,hy',ew,YC];refine⟨by decide,fun q=>⟨by decide,?_⟩,fun q=>⟨i+1,by omega,by omega,by omega,by omega,?_⟩⟩
  ·rw [hf,beq_eq_false_iff_ne.2 q,Bool.false_and,Bool.or_false];exact decide_eq_decide.2 UInt8.lt_iff_toNat_lt.symm
  ·subst q;rw [hf];simp
 ·have he:a.length≤i∨b.length≤i:=by omega
  rw [Qp he hi hib] at hf;have hn:i<a.length→b.length≤i:=by omega
  simp [e0,e1,e5,hf];exact fun c1 c2=>absurd ⟨c1,c2⟩ hlt
theorem R7 (l:List Bytes)(s:Bytes)(x:AV)(hR:Rs 1 h x (l.map aO))(hl:l.length≤1000000):aa Tryz.prog gl 203 [x,.str s] h fun v h'=>v= .bool (decide (s∈l))∧h'=h:=by
 refine aa.data (.bool _) (aa.body Tryz.f203 _ mixed Tryz.func203 rfl rfl (by simp [Tryz.ntmps203]) ?_);have hf:=hR.fix;simp [hf];refine aT.up mixed l.length (fun i fr h'=>fr 0=x∧fr 1= .str s∧fr 5= .int .i64 i∧(s∈l↔s∈l.drop i)∧h'=h) 0 (by omega) ⟨by simp,by simp,by simp,by simp,by simp⟩ ?_;rintro i fr h' hi ⟨e0,e1,e5,hm,rfl⟩;rcases zN i l.length with hlt | hge
 ·obtain⟨y,hy,hy'⟩:=aJ hlt;rw [bq hy,List.mem_cons] at hm;have ew:=aB (i:=i) (by omega);have rx:=Rs.ix Tryz.prog hR i (by omega) (y:=[.str y]) (by simp [hy,aO]);simp [e0,e1,e5,hlt,hf,hR.len2,rx,ew];refine⟨fun q=>hm.2 (.inl q.symm),fun q=>⟨i+1,by omega,by omega,by omega,hm.trans ⟨fun e=>e.resolve_left fun e=>q e.symm,.inr⟩⟩⟩
 ·rw [zH hge] at hm;simp [e0,e1,e5,hf,hR.len2,Nat.not_lt.2 hge];intro e;simpa using hm.1 e
theorem Hw (l:List Bytes)(s:Bytes)(x:AV)(hx:Rn x (l.map aO))(hs:eG s)(hl:l.length≤1000000):aa Tryz.prog gl 55 [x,.str s] h fun v h'=>v= .ro ((sK l s).map aO)∧h'=h:=by
 refine aa.fresh (aa.body Tryz.f55 _ mixed Tryz.func55 rfl rfl (by simp [Tryz.ntmps55]) ?_);have hR:=hx.rs (n:=1) h (AP l);have hxf:=hR.fix;simp [hxf];refine aT.up mixed l.length (fun i fr h'=>fr 0=x∧fr 1= .str s∧fr 7= .int .i64 i∧s∉l.take i∧ ∃out done o g,fr 5=o∧fr 6= .bool done∧Ls 1 h.length h' o (out.map aO)∧(s∉l→yw s l=out++(if done=true then l.drop i else yw s (l.drop i)))∧out.length≤i+done.toNat∧h'=h++g) 0 (by omega)
  ⟨by simp,by simp,by simp,by simp,[],false,.nil,[],by simp,by simp,Ls.nil,by simp,by simp,by simp⟩ ?_
 rintro i fr h' hi ⟨e0,e1,e7,hnt,out,done,o,g,e5,e6,hL,hm,hol,rfl⟩;have hf:=hL.rs.fix;have hdn:done.toNat≤1:=by cases done <;> simp
 have hR:=hR.append g;rcases zN i l.length with hlt | hge
 ·obtain⟨y,hy,hy'⟩:=aJ hlt;have ew:=aB (i:=i) (by omega);have rx:=Rs.ix Tryz.prog hR i (by omega) (y:=[.str y]) (by simp [hy,aO]);by_cases hne:y=s
  ·subst hne;have hin:y∈l:=zF hy;simp [hR.len2,hxf,e0,e1,e7,hlt,rx,e5,e6];rw [sK,if_pos hin];rcases hx with rfl | ⟨_,e⟩
   ·exact .data _ (.ro _ (gM _))
   ·simp at e;subst e;cases hin
  have hnt2:s∉l.take (i+1):=by
   rw [zM,hy];simp only [Option.toList_some,List.mem_append,List.mem_singleton];rintro (e | e)
   ·exact hnt e
   ·exact hne e.symm
  simp [hR.len2,hxf,e0,e1,e7,hlt,rx,hne,e5,e6];refine ax.pure _ (fun _=>qF s y hs) ?_;simp [-aj,-au,hR.len2,hxf,e0,e1,e5,e6,e7,hlt,rx,hf];rw [bq hy,yw] at hm;refine⟨fun c1 c2=> ?_,fun c1=> ?_⟩
  ·subst c1;refine mV (lo:=h.length) (n:=1) (es:=out.map aO) (ys:=[aO s]) (by simpa [aO] using hL.more [.cells 1 [aO s]]) (by simp) (by simp [bE,aO]) (by simp;omega) ?_;intro s1 h1 hs1 hg1;obtain⟨g1,rfl⟩:=hg1.base h (by simp) ⟨_,by simp;rfl⟩;have r1:=Rs.ix Tryz.prog ((hx.rs (n:=1) h (AP l)).append g1) i (by omega) (y:=[.str y]) (by simp [hy,aO]);simp [-aj,-au,e0,e1,e5,e6,e7,hlt,hs1.rs.fix,hxf,r1];refine mV (lo:=h.length) (n:=1) (es:=out.map aO++[aO s]) (ys:=[aO y]) (by simpa [aO] using hs1.more [.cells 1 [aO y]]) (by simp) (by simp [bE,aO]) (by simp;omega) ?_;intro s2 h2 hs2 hg2;obtain⟨g2,rfl⟩:=hg2.base h (by simp) ⟨_,by simp;rfl⟩;simp [-aj,-au,e0,e1,e5,e6,e7,hlt,hs2.rs.fix,ew];refine⟨i+1,by omega,by omega,by omega,hnt2,out++[s,y],by simpa using hs2,fun hn=> ?_,by simp at hol ⊢;omega⟩;rw [hm hn];simp [c2]
  ·refine mV (lo:=h.length) (n:=1) (es:=out.map aO) (ys:=[aO y]) (by simpa [aO] using hL.more [.cells 1 [aO y]]) (by simp) (by simp [bE,aO]) (by simp;omega) ?_;intro s1 h1 hs1 hg1;obtain⟨g1,rfl⟩:=hg1.base h (by simp) ⟨_,by simp;rfl⟩;simp [-aj,-au,e0,e1,e5,e6,e7,hlt,hs1.rs.fix,ew];refine⟨i+1,by omega,by omega,by omega,hnt2,?_⟩;cases done
   ·have c2:=c1 rfl;exact⟨out++[y],.inl ⟨rfl,by simpa using hs1,fun hn=>by rw [hm hn];simp [c2],by simp at hol ⊢;omega⟩⟩
   ·exact⟨out++[y],.inr ⟨rfl,by simpa using hs1,fun hn=>by rw [hm hn];simp,by simp at hol ⊢;omega⟩⟩
 ·obtain rfl:i=l.length:=by omega
  rw [List.take_length] at hnt;have hm:=hm hnt;rw [List.drop_length] at hm;have hins:sK l s=yw s l:=by rw [sK,if_neg hnt]
  simp [-aj,-au,hR.len2,hxf,e0,e1,e5,e6,e7,hf];refine⟨fun c=> ?_,fun c=> ?_⟩
  ·subst c;refine mV (lo:=h.length) (n:=1) (es:=out.map aO) (ys:=[aO s]) (by simpa [aO] using hL.more [.cells 1 [aO s]]) (by simp) (by simp [bE,aO]) (by simp;omega) ?_;intro s1 h1 hs1 hg1;obtain⟨g1,rfl⟩:=hg1.base h (by simp) ⟨_,by simp;rfl⟩;simp [hs1.rs.fix];have e:sK l s=out++[s]:=by rw [hins,hm];simp [yw]
   rw [e];have:=hs1.frz (m:=h.length) (by omega) (by rw [←List.map_singleton,←List.map_append];exact gM _);simpa using this
  ·subst c;have e:sK l s=out:=by rw [hins,hm];simp
   rw [e];have:=hL.frz (m:=h.length) (by omega) (gM _);simpa using this
theorem yI (a b:List Bytes)(hl:a.length≤1000000)(hsa: ∀s∈a,eG s)(x y:AV)(hx:Rs 1 h x (a.map aO))(hy:Rs 1 h y (b.map aO))(hlb:b.length≤1000000):aa Tryz.prog gl 179 [x,y] h fun v h'=>v= .int .i64 (dQ a b)∧h'=h:=by
 refine aa.data (.int _ _) (aa.body Tryz.f179 _ mixed Tryz.func179 rfl rfl (by simp [Tryz.ntmps179]) ?_);have fx:=hx.fix;have fy:=hy.fix;simp [fx,fy,hx.len2,hy.len2];refine aT.up mixed a.length (fun i fr h'=>fr 0=x∧fr 1=y∧fr 5= .int .i64 i∧i≤b.length∧dQ a b=dQ (a.drop i) (b.drop i)∧h'=h) 0 (by omega) ⟨by simp,by simp,by simp,by omega,by simp,by simp⟩ ?_;rintro i fr h' hi ⟨e0,e1,e5,hib,hf,rfl⟩;by_cases hlt:i<a.length∧i<b.length
 ·obtain⟨s,hs,hs'⟩:=aJ hlt.1;obtain⟨t,ht,ht'⟩:=aJ hlt.2;rw [bq hs,bq ht,dQ] at hf;have ew:=aB (i:=i) (by omega);have rx:=Rs.ix Tryz.prog hx i (by omega) (y:=[.str s]) (by simp [hs,aO]);have ry:=Rs.ix Tryz.prog hy i (by omega) (y:=[.str t]) (by simp [ht,aO]);have h1:=hlt.1;have h2:=hlt.2;simp [e0,e1,e5,h1,h2,fx,fy,hx.len2,hy.len2,rx,ry,ew];refine⟨by decide,fun hne=>⟨by decide,?_⟩,fun he=>⟨i+1,by omega,by omega,by omega,by omega,?_⟩⟩
  ·refine ax.pure _ (fun _=>qF s t (hsa s (zF hs))) ?_;have hz:lS s t≠0:=fun e=>hne (iG.1 e);rw [if_neg hz] at hf;simp [e0,e1,e5,h1,h2,fx,fy,hx.len2,hy.len2,rx,ry];refine⟨fun c=> ?_,fun c=> ?_⟩
   ·rw [hf,lS,if_pos c]
   ·rw [hf,lS,if_neg (by simp [c]),if_neg hne]
  ·rw [hf,if_pos (iG.2 he)]
 ·have hg: ¬(i<a.length∧i<b.length):=hlt;rcases zN i a.length with h1 | h1
  ·have h2:i=b.length:=by omega
   subst h2;rw [List.drop_length] at hf;obtain⟨z,l,hzl⟩:=List.exists_cons_of_ne_nil (l:=a.drop b.length) (by intro e;have:=congrArg List.length e;simp at this;omega);rw [hzl,dQ] at hf;have h3: ¬(a.length:Int)<b.length:=by omega
   have h4:b.length<a.length:=h1;simp [e0,e1,e5,h1,fx,fy,hx.len2,hy.len2,h3,h4,hf]
  ·obtain rfl:i=a.length:=by omega
   rw [List.drop_length] at hf;rcases zN a.length b.length with h2 | h2
   ·obtain⟨z,l,hzl⟩:=List.exists_cons_of_ne_nil (l:=b.drop a.length) (by intro e;have:=congrArg List.length e;simp at this;omega);rw [hzl,dQ] at hf;simp [e0,e1,e5,fx,fy,hx.len2,hy.len2,h2,hf]
   ·have:b.length=a.length:=by omega
    rw [zH (by omega),dQ] at hf;simp [e0,e1,e5,fx,fy,hx.len2,hy.len2,this,hf]
theorem Hy (d e:Int)(p q:List Bytes)(hl:p.length≤1000000)(hsa: ∀s∈p,eG s)(x y:AV)(hx:Rs 1 h x (p.map aO))(hy:Rs 1 h y (q.map aO))(hlb:q.length≤1000000):aa Tryz.prog gl 163 [.int .i64 d,x,.int .i64 e,y] h fun v h'=>v= .bool (Gs d p e q)∧h'=h:=by
 refine aa.data (.bool _) (aa.body Tryz.f163 _ mixed Tryz.func163 rfl rfl (by simp [Tryz.ntmps163]) ?_);have fx:=hx.fix;have fy:=hy.fix;have hq0:((q.length:Int)=0)↔q=[]:=by rw [←List.length_eq_zero_iff];omega
 have hb0:((q.length:Int)==0)=decide (q=[]):=by rw [Bool.eq_iff_iff];simp [hq0]
 simp [fx,fy,hx.len2,hy.len2,hq0];refine⟨fun c=> ?_,fun c1 c2=>⟨fun c3=> ?_,fun c3=> ?_⟩⟩
 ·rw [Gs,if_pos c,hb0]
 ·rw [Gs,if_neg (by rintro (c | c);exact c1 c;exact c c2),if_pos (by omega)]
 ·refine ax.pure _ (fun _=>yI p q hl hsa x y hx hy hlb) ?_;simp;rw [Gs,if_neg (by rintro (c | c);exact c1 c;exact c c2),if_neg (by omega)]
theorem gV (a b:Int):aa Tryz.prog gl 127 [.int .i64 a,.int .i64 b] h fun x h'=>x= .int .i64 (ig a b)∧h'=h:=by
 refine aa.data (.int _ _) (aa.body Tryz.f127 _ mixed Tryz.func127 rfl rfl (by simp [Tryz.ntmps127]) ?_);unfold ig;by_cases h1:a<b
 ·simp [h1]
 ·by_cases h2:b<a <;> simp [h1,h2]
theorem lK (a b:Bytes)(ha:eG a):aa Tryz.prog gl 128 [.str a,.str b] h fun x h'=>x= .int .i64 (iZ a b)∧h'=h:=by
 refine aa.data (.int _ _) (aa.body Tryz.f128 _ mixed Tryz.func128 rfl rfl (by simp [Tryz.ntmps128]) ?_);unfold iZ;by_cases h1:a=b
 ·simp [h1]
 ·simp [h1];refine ax.pure _ (fun _=>qF a b ha) ?_;cases hb:Op.bytesLess a b <;> simp
theorem uZ (a b:jq)(ha:eG a.dev):aa Tryz.prog gl 97 [.agg (bN a),.agg (bN b)] h fun x h'=>x= .int .i64 (eu a b)∧h'=h:=by
 refine aa.data (.int _ _) (aa.body Tryz.f97 _ mixed Tryz.func97 rfl rfl (by simp [Tryz.ntmps97]) ?_);unfold eu;by_cases h1:a.dev=b.dev
 ·simp [bN,h1];refine ax.pure _ (fun _=>gV a.seq b.seq) ?_;simp
 ·simp [bN,h1];refine ax.pure _ (fun _=>lK a.dev b.dev ha) ?_;simp
theorem wT {a b:List jq} {i:Nat} {x y:jq} (hx:a[i]? =some x)(hy:b[i]? =some y):cO (a.drop i) (b.drop i)=if eu x y≠0 then eu x y else cO (a.drop (i+1)) (b.drop (i+1)):=by
 rw [bq hx,bq hy,cO]
theorem rY {a b:List jq} {i:Nat} (h:a.length≤i∨b.length≤i)(h1:i≤a.length)(h2:i≤b.length):cO (a.drop i) (b.drop i)=ig a.length b.length:=by
 have e1:ig a.length b.length=ig (a.drop i).length (b.drop i).length:=by
  have:=Qa (a.drop i).length (b.drop i).length i;rw [←this,List.length_drop,List.length_drop,show i+(a.length - i)=a.length by omega,show i+(b.length - i)=b.length by omega]
 rw [e1];rcases h with h | h
 ·rw [zH h];cases b.drop i <;> rfl
 ·rw [zH h];cases a.drop i <;> rfl
set_option maxHeartbeats 2000000 in
theorem JU (a b:List jq)(ha: ∀s∈a,eG s.dev)(hla:a.length≤maxLen):aa Tryz.prog gl 129 [.ro (a.map bN),.ro (b.map bN)] h fun x h'=>x= .int .i64 (cO a b)∧h'=h:=by
 refine aa.data (.int _ _) (aa.body Tryz.f129 _ mixed Tryz.func129 rfl rfl (by simp [Tryz.ntmps129]) ?_);have hla:a.length≤9223372036854775807:=hla;simp;refine aT.up mixed a.length (fun i fr H=>fr 0= .ro (a.map bN)∧fr 1= .ro (b.map bN)∧fr 5= .int .i64 i∧i≤b.length∧cO a b=cO (a.drop i) (b.drop i)∧ ∃g,H=h++g) 0 (by omega) ⟨by simp,by simp,by simp,by omega,by simp,[],by simp⟩ ?_;rintro i fr H hi ⟨e0,e1,e5,hib,hf,g,rfl⟩;by_cases hlt:i<a.length∧i<b.length
 ·obtain⟨x,hx,hx'⟩:=aJ hlt.1;obtain⟨y,hy,hy'⟩:=aJ hlt.2;rw [wT hx hy] at hf;have ew:IntKind.i64.wrap ((i:Int)+1)=((i+1:Nat):Int):=by rw [aC (by omega) (by omega)];omega
  have hl1:=hlt.1;have hl2:=hlt.2;simp [e0,e1,e5,hl1,hl2,hx,hx',hy,hy',ew,bN];refine⟨by decide,?_⟩;refine ax.pure _ (fun _=>uZ x y (ha x (zF hx))) ?_;simp [e0,e1,e5,hl1,hl2,hx,hx',hy,hy',ew];refine⟨fun q=>by rw [hf,if_pos q],fun q=>⟨i+1,by omega,by omega,by omega,by omega,by rw [hf,if_neg (by simpa using q)]⟩⟩
 ·have he:a.length≤i∨b.length≤i:=by omega
  rw [rY he hi hib] at hf;have hn:i<a.length→b.length≤i:=by omega
  have hn': ¬(i<a.length∧i<b.length):=hlt;by_cases c:i<a.length
  ·have c2: ¬i<b.length:=fun q=>hlt ⟨c,q⟩;simp [e0,e1,e5,c,c2];refine ax.pure _ (fun _=>gV a.length b.length) ?_;simp [hf]
  ·simp [e0,e1,e5,c];refine ax.pure _ (fun _=>gV a.length b.length) ?_;simp [hf]
theorem mH {l:List Int} {i:Nat} {x:Int} (hx:l[i]? =some x):cz (l.drop i)=if x≠0 then x else cz (l.drop (i+1)):=by
 rw [bq hx,cz]
set_option maxHeartbeats 4000000 in
theorem Ex (a b:ay)(ha:a.Ok)(hb:b.Ok):aa Tryz.prog gl 91 [.agg (ae a),.agg (ae b)] h fun x h'=>x= .int .i64 (rX a b)∧h'=h:=by
 refine aa.data (.int _ _) (aa.body Tryz.f91 _ mixed Tryz.func91 rfl rfl (by simp [Tryz.ntmps91]) ?_);have e1:=ha.src;have e2:=hb.src;have hn:a.srcs.length≤maxLen:=by have:=ha.n;rw [e1] at this;simpa using this
 obtain⟨c1,h1⟩: ∃c,c=ig a.time b.time:=⟨_,rfl⟩;obtain⟨c2,h2⟩: ∃c,c=iZ a.point b.point:=⟨_,rfl⟩;obtain⟨c3,h3⟩: ∃c,c=iZ a.id b.id:=⟨_,rfl⟩;obtain⟨c4,h4⟩: ∃c,c=iZ a.tag b.tag:=⟨_,rfl⟩;obtain⟨c5,h5⟩: ∃c,c=iZ a.plate b.plate:=⟨_,rfl⟩;obtain⟨c6,h6⟩: ∃c,c=ig a.cls b.cls:=⟨_,rfl⟩;obtain⟨c7,h7⟩: ∃c,c=ig a.score b.score:=⟨_,rfl⟩;obtain⟨c8,h8⟩: ∃c,c=cO a.srcs b.srcs:=⟨_,rfl⟩;have hcl:rX a b=cz [c1,c2,c3,c4,c5,c6,c7,c8]:=by rw [rX,cmpL,h1,h2,h3,h4,h5,h6,h7,h8]
 rw [hcl];simp;refine⟨by decide,?_⟩;refine ax.pure (.int .i64 c1) (fun _=>by rw [h1];exact gV a.time b.time) ?_;simp;refine ax.pure (.int .i64 c2) (fun _=>by rw [h2];exact lK a.point b.point ha.point) ?_;simp;refine ax.pure (.int .i64 c3) (fun _=>by rw [h3];exact lK a.id b.id ha.id) ?_;simp;refine ax.pure (.int .i64 c4) (fun _=>by rw [h4];exact lK a.tag b.tag ha.tag) ?_;simp;refine ax.pure (.int .i64 c5) (fun _=>by rw [h5];exact lK a.plate b.plate ha.plate) ?_;simp;refine ax.pure (.int .i64 c6) (fun _=>by rw [h6];exact gV a.cls b.cls) ?_;simp;refine ax.pure (.int .i64 c7) (fun _=>by rw [h7];exact gV a.score b.score) ?_;simp;refine ax.pure (.int .i64 c8) (fun _=>by rw [h8,e1,e2];exact JU a.srcs b.srcs ha.dev hn) ?_;clear hcl h1 h2 h3 h4 h5 h6 h7 h8;simp;obtain⟨L,hL⟩: ∃L,L=[c1,c2,c3,c4,c5,c6,c7,c8]:=⟨_,rfl⟩;have hLl:L.length=8:=by rw [hL];rfl
 have hLm:[[AV.int .i64 c1],[.int .i64 c2],[.int .i64 c3],[.int .i64 c4],[.int .i64 c5],[.int .i64 c6],[.int .i64 c7],[.int .i64 c8]]=L.map fun c=>[AV.int .i64 c]:=by rw [hL];rfl
 rw [←hL];obtain⟨b0,hb0⟩: ∃b0,b0=h.length+2:=⟨_,rfl⟩;refine aT.up mixed 8 (fun i fr H=>fr 5= .own b0 0 8∧fr 6= .int .i64 i∧cz L=cz (L.drop i)∧H[b0]? =some (.cells 1 (L.map fun c=>[AV.int .i64 c]))∧ ∃g,H=h++g) 0 (by omega) ⟨by simp [hb0],by simp,by simp,by rw [←hLm];simp [hb0],by simp⟩ ?_;rintro i fr H hi ⟨e5,e6,hf,hH,hB⟩;rcases zN i 8 with hlt | hge
 ·obtain⟨x,hx,hx'⟩:=aJ (l:=L) (i:=i) (by omega);rw [mH hx] at hf;have hH1:=(zA.1 hH).1;have hH2:=(zA.1 hH).2;have ew:=aB (i:=i) (by omega);have hlt':(i:Int)<8:=by omega
  simp [e5,e6,hlt',hlt,hH,hH1,hH2,hx,hx',hLl,ew];refine⟨fun q=>⟨by rw [hf,if_pos q],hB⟩,fun q=>⟨i+1,by omega,by omega,by omega,by rw [hf,if_neg (by simpa using q)],hB⟩⟩
 ·obtain rfl:i=8:=by omega
  rw [zH (by omega),cz] at hf;simp [e5,e6,hf];exact hB
theorem yD (l:List ay): ∀e∈l.map ae,e.length=8:=by
 intro e he;obtain⟨s,_,rfl⟩:=List.mem_map.1 he;rfl
end Go.Proofs.YtkpioblbeiaefaaGreat
end
section
namespace Go.Toll
open Go Go.Abs
theorem ul:jm ig:=Cz
theorem pG:jm iZ:=by
 refine Eq.mp (congrArg jm ?_) qC;funext a b
 rw [Gx]
theorem lG:jm eu:=by
 refine Eq.mp (congrArg jm ?_) ((pG.comap jq.dev).lex (ul.comap jq.seq));funext a b
 unfold eu;by_cases h:a.dev=b.dev
 ·rw [if_pos h,if_pos (by rw [h];exact ER _)]
 ·rw [if_neg h,if_neg fun e=>h (ES e)]
theorem rZ (q:List jq):cO [] q=ig 0 q.length:=by cases q <;> simp [cO]
theorem mF (a:jq)(r:List jq):cO (a::r) []=1:=by
 simp only [cO,List.length_cons,List.length_nil,ig];rw [if_neg (by omega),if_pos (by omega)]
theorem wS: ∀x y:List jq,cO x y<0↔0<cO y x
 | [],[]=>by simp [cO,ig]
 | [],b::q=>by
  rw [mF,rZ,List.length_cons,ig,if_pos (by omega)];simp
 | a::r,[]=>by
  rw [mF,rZ,List.length_cons,ig,if_pos (by omega)];simp
 | a::r,b::q=>by
  have h1:=lG.anti a b;have h2:=lG.anti b a;have ih:=wS r q;rw [cO,cO];by_cases h:eu a b=0
  ·rw [if_neg (by simpa using h),if_neg (by simpa using lG.zero.1 h)];exact ih
  ·rw [if_pos h,if_pos fun e=>h (lG.zero.1 e)];exact h1
theorem uN: ∀x y z:List jq,cO x y≤0→cO y z≤0→cO x z≤0
 | [],_,z,_,_=>by
  rw [rZ,ig];split
  ·omega
  ·rw [if_neg (by omega)];omega
 | a::r,[],_,h,_=>by rw [mF] at h;omega
 | a::r,b::q,[],_,h=>by rw [mF] at h;omega
 | a::r,b::q,c::s,h1,h2=>by
  rw [cO] at h1 h2 ⊢;have ih:=uN r q s;have o:=lG;have a1:eu a b≤0:=by by_cases e:eu a b=0;omega;rwa [if_pos e] at h1
  have a2:eu b c≤0:=by by_cases e:eu b c=0;omega;rwa [if_pos e] at h2
  have a3:=o.trans a b c a1 a2;by_cases h:eu a c=0
  ·rw [if_neg (by simpa using h)];have b1:=o.trans c a b (by rw [o.zero.1 h];omega) a1;have b2:=o.trans b c a a2 (by rw [o.zero.1 h];omega);have b3:=o.anti c b;have b4:=o.anti b a;have b5:=o.anti a b;have b6:=o.anti b c;have c1:eu a b=0:=by omega
   have c2:eu b c=0:=by omega
   rw [if_neg (by simpa using c1)] at h1;rw [if_neg (by simpa using c2)] at h2;exact ih h1 h2
  ·rw [if_pos h];omega
theorem Hm:jm cO:=⟨wS,uN⟩
theorem gu {α:Type} {c:α→α→Int} {r:α→α→List Int} (o:jm c)(o':jm fun x y=>cz (r x y)):jm fun x y=>cz (c x y::r x y):=by
 refine Eq.mp (congrArg jm ?_) (o.lex o');funext x y
 rw [cz];by_cases h:c x y=0 <;> simp [h]
theorem pF:jm rX:=by
 have h0:jm fun (x y:ay)=>cz []:=vU;exact gu (ul.comap ay.time) (gu (pG.comap ay.point) (gu (pG.comap ay.id) (gu (pG.comap ay.tag) (gu (pG.comap ay.plate)
  (gu (ul.comap ay.cls) (gu (ul.comap ay.score) (gu (Hm.comap ay.srcs) h0)))))))
section
variable {α : Type} {lt lt' : α → α → Bool}
end
theorem OL {α β:Type} {f:α→β} {l:List α} (h:(l.map f).Nodup) {x y:α} (hx:x∈l)(hy:y∈l)(e:f x=f y):x=y:=by
 induction l with
 | nil=>cases hx
 | cons a l ih=>
  rw [List.map_cons,List.nodup_cons] at h;rcases List.mem_cons.1 hx with ex | hx' <;> rcases List.mem_cons.1 hy with ey | hy'
  ·rw [ex,ey]
  ·subst ex;exact absurd (List.mem_map.2 ⟨y,hy',e.symm⟩) h.1
  ·subst ey;exact absurd (List.mem_map.2 ⟨x,hx',e⟩) h.1
  ·exact ih h.2 hx' hy'
end Go.Toll
end
