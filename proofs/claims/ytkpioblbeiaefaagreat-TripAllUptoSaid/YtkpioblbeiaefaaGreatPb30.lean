/- Part 30 of the lemmas below the statements of this seat: TripH, TollAllR, R21X. -/
import Derived.Test.YtkpioblbeiaefaaGreatPb17
import Derived.Test.YtkpioblbeiaefaaGreatPb29
set_option linter.unusedSectionVars false
set_option linter.unusedVariables false
set_option linter.unusedSimpArgs false
set_option linter.unnecessarySimpa false
set_option maxRecDepth 100000
section
namespace Go.Proofs.YtkpioblbeiaefaaGreat
open Go Go.Abs Go.Toll
variable {gl : aR} {h : ak}
set_option maxHeartbeats 2000000 in
theorem Kk (a b:dB)(ha:a.stops≠[])(hb:b.stops≠[]):af Tryz.prog gl 69 [.agg (aH a),.agg (aH b)] h fun v h'=>v= .int .i64 (jS a b)∧h'=h:=by
 refine af.data (by simp) (af.body Tryz.f69 _ mixed Tryz.func69 rfl rfl (by simp [Tryz.ntmps69]) ?_);obtain⟨a0,ra,ea⟩:=List.exists_cons_of_ne_nil ha;obtain⟨b0,rb,eb⟩:=List.exists_cons_of_ne_nil hb;have hc:jS a b=dE [iF a0.time b0.time,jb a.id b.id]:=by rw [jS,iQ,iQ,ea,eb];rfl
 obtain⟨c1,h1⟩: ∃c,c=iF a0.time b0.time:=⟨_,rfl⟩;obtain⟨c2,h2⟩: ∃c,c=jb a.id b.id:=⟨_,rfl⟩;rw [hc,←h1,←h2];simp [aH,ea,eb,aa];refine⟨by decide,?_⟩;refine ay.pure (.int .i64 c1) (fun _=>by rw [h1];exact KJ a0.time b0.time) ?_;simp;refine ay.pure (.int .i64 c2) (fun _=>by rw [h2];exact Dc a.id b.id) ?_;simp;refine ay.pure _ (fun _=>Jk (h.length+2) [c1,c2] (by simp) (by simp)) ?_;simp
theorem Kl (a b:fI):af Tryz.prog gl 74 [.agg (aM a),.agg (aM b)] h fun v h'=>v= .int .i64 (Db a b)∧h'=h:=by
 refine af.data (by simp) (af.body Tryz.f74 _ mixed Tryz.func74 rfl rfl (by simp [Tryz.ntmps74]) ?_);simp [aM];refine ay.pure _ (fun _=>Dc a.id b.id) ?_;simp [Db]
theorem OM (l:List dB): ∀e∈l.map aH,e.length=5:=by
 intro e he;obtain⟨s,_,rfl⟩:=List.mem_map.1 he;rfl
theorem Si (l:List fI): ∀e∈l.map aM,e.length=2:=by
 intro e he;obtain⟨s,_,rfl⟩:=List.mem_map.1 he;rfl
theorem Oz {lo:Nat} {x:AV} (l:List dB)(hx:Ls 5 lo h x (l.map aH))(hne: ∀a∈l,a.stops≠[])(hl:l.length≤400000):
  af Tryz.prog gl 68 [x,.fn (.func 69) [] []] h fun v h'=>v= .tup []∧Ls 5 lo h' x ((bP l).map aH)∧h'.length=h.length∧ ∀(b:Nat) (o:cZ),h[b]? =some o→(∀off len,x≠ .own b off len)→h'[b]? =some o:=by
 rcases hx.1 with⟨rfl,he⟩ | ⟨b,rfl,hlb,hb⟩
 ·have he:l=[]:=by simpa using he
  subst he;refine (wy _ _).mono ?_;rintro v h' ⟨rfl,rfl⟩;exact⟨rfl,hx,rfl,fun _ _ ho _=>ho⟩
 ·have hbl:=aK hb;have hset:h.set b (.cells 5 (l.map aH))=h:=by obtain⟨_,hg⟩:=zA.1 hb;rw [←hg];exact List.set_getElem_self ..
  have hs:=BG (gl:=gl) (h:=h) b (l.map aH) l.length (by simp) hl hbl (OM l) 69 [] zf NW.swo (by
   intro x hx y hy o;obtain⟨a,hma,rfl⟩:=List.mem_map.1 hx;obtain⟨c,hmc,rfl⟩:=List.mem_map.1 hy;rw [IQ (hne a hma) (hne c hmc)];exact Kk a c (hne a hma) (hne c hmc))
  have hsm:aT (fun x y=>decide (zf x y<0)) (l.map aH)=(bP l).map aH:=by
   have e: ∀r acc:List dB,(∀a∈r,a.stops≠[])→(∀a∈acc,a.stops≠[])→(r.map aH).foldl (fun acc x=>gV (fun x y=>decide (zf x y<0)) x acc) (acc.map aH)=(r.foldl (fun acc x=>gV (fun x y=>decide (jS x y<0)) x acc) acc).map aH:=by
    intro r
    induction r with
    | nil=>intro acc _ _;rfl
    | cons x r ih=>
     intro acc h1 h2;have hk: ∀k:Nat,gz (fun x y=>decide (zf x y<0)) (aH x) (acc.map aH) k=gz (fun x y=>decide (jS x y<0)) x acc k:=by
      intro k
      induction k with
      | zero=>rfl
      | succ k ihk=>
       rw [gz,gz,List.getElem?_map]
       cases hy:acc[k]? with
       | none=>rfl
       | some y=>
        simp only [Option.map_some];rw [IQ (h1 x (by simp)) (h2 y (zF hy)),ihk]
     have hi:gV (fun x y=>decide (zf x y<0)) (aH x) (acc.map aH)=(gV (fun x y=>decide (jS x y<0)) x acc).map aH:=by
      rw [gV,gV,List.length_map,hk,List.map_append,List.map_cons,List.map_take,List.map_drop]
     rw [List.map_cons,List.foldl_cons,List.foldl_cons,hi];refine ih _ (fun a ha=>h1 a (by simp [ha])) fun a ha=> ?_;rcases (Eg _).1 ha with rfl | ha
     ·exact h1 _ (by simp)
     ·exact h2 a ha
   have:=e l [] hne (by simp);simpa [aT,bP] using this
  rw [hset,hsm] at hs;rw [List.length_map];refine hs.mono ?_;rintro v h' ⟨rfl,rfl⟩;refine⟨rfl,⟨.inr ⟨b,by simp [bP,bI],hlb,zI hbl⟩,OM _⟩,by simp,fun b' o ho hne=> ?_⟩;rw [zJ (by rintro rfl;exact hne _ _ rfl)];exact ho
theorem Rj {lo:Nat} {x:AV} (l:List fI)(hx:Ls 2 lo h x (l.map aM))(hl:l.length<20):
  af Tryz.prog gl 73 [x,.fn (.func 74) [] []] h fun v h'=>v= .tup []∧Ls 2 lo h' x ((mW l).map aM)∧h'.length=h.length∧ ∀(b:Nat) (o:cZ),h[b]? =some o→(∀off len,x≠ .own b off len)→h'[b]? =some o:=by
 rcases hx.1 with⟨rfl,he⟩ | ⟨b,rfl,hlb,hb⟩
 ·have he:l=[]:=by simpa using he
  subst he;refine (wZ _ _).mono ?_;rintro v h' ⟨rfl,rfl⟩;exact⟨rfl,hx,rfl,fun _ _ ho _=>ho⟩
 ·have hbl:=aK hb;have hset:h.set b (.cells 2 (l.map aM))=h:=by obtain⟨_,hg⟩:=zA.1 hb;rw [←hg];exact List.set_getElem_self ..
  have hs:=zo (gl:=gl) (h:=h) b (l.map aM) hbl (Si l) (by simpa using hl) 74 [] YZ (by
   intro x hx y hy o;obtain⟨a,hma,rfl⟩:=List.mem_map.1 hx;obtain⟨c,hmc,rfl⟩:=List.mem_map.1 hy;exact Kl a c)
  have hsm:aT (fun x y=>decide (YZ x y<0)) (l.map aM)=(mW l).map aM:=IC (lt:=fun x y=>decide (Db x y<0)) (fun _ _=>rfl) l;rw [hset,hsm] at hs;refine hs.mono ?_;rintro v h' ⟨rfl,rfl⟩;refine⟨rfl,⟨.inr ⟨b,by simp [mW,bI],hlb,zI hbl⟩,Si _⟩,by simp,fun b' o ho hne=> ?_⟩;rw [zJ (by rintro rfl;exact hne _ _ rfl)];exact ho
theorem Px {n m lo:Nat} {H H':ak} {x y:AV} {es es':List (List AV)} (hx:Ls n lo H x es)(hy:Ls m lo H y es')(hnm:n≠m)(hk: ∀(b:Nat) (o:cZ),H[b]? =some o→(∀off len,x≠ .own b off len)→H'[b]? =some o):Ls m lo H' y es':=by
 rcases hy.1 with⟨rfl,he⟩ | ⟨b,rfl,hlb,hb⟩
 ·exact⟨.inl ⟨rfl,he⟩,hy.2⟩
 ·exact⟨.inr ⟨b,rfl,hlb,hk b _ hb (oM hx hb (Ne.symm hnm))⟩,hy.2⟩
set_option maxHeartbeats 2000000 in
theorem BB {lo:Nat} {x y:AV} (l:List dB)(e:List fI)(hx:Ls 5 lo h x (l.map aH))(hy:Ls 2 lo h y (e.map aM))(hne: ∀a∈l,a.stops≠[])(hl:l.length≤400000)(he:e.length<20):
  af Tryz.prog gl 38 [x,y] h fun v h'=>v= .tup [x,y]∧Ls 5 lo h' x ((bP l).map aH)∧Ls 2 lo h' y ((mW e).map aM)∧ ∀h0:ak,h0.length≤lo→(∃g,h=h0++g)→ ∃g,h'=h0++g:=by
 refine af.body Tryz.f38 _ mixed Tryz.func38 rfl rfl (by simp [Tryz.ntmps38]) ?_;have fx:=hx.rs.fix;have fy:=hy.rs.fix;simp [fx,fy];refine ay.any (Oz l hx hne hl) ?_;rintro v h1 ⟨rfl,hx1,hl1,hk1⟩;have hy1:=Px hx hy (by decide) hk1;have fx1:=hx1.rs.fix;have fy1:=hy1.rs.fix;simp [fx,fy,fx1,fy1];refine ay.any (Rj e hy1 he) ?_;rintro v h2 ⟨rfl,hy2,hl2,hk2⟩;have hx2:=Px hy1 hx1 (by decide) hk2;have fx2:=hx2.rs.fix;have fy2:=hy2.rs.fix;simp [fx,fy,fx2,fy2];refine⟨hx2,hy2,fun h0 hlo g hg=> ?_⟩;have hb1: ∃g,h1=h0++g:=jw ⟨g,hg⟩ (fun b o hb ho=>hk1 b o ho fun off len e=>by have:=hx.above _ _ _ e;omega) (by rw [hl1,hg];simp);obtain⟨g1,hg1⟩:=hb1;exact jw ⟨g1,hg1⟩ (fun b o hb ho=>hk2 b o ho fun off len e=>by have:=hy1.above _ _ _ e;omega) (by rw [hl2,hl1,hg];simp)
theorem Rv {l:List aC} (hl:l≠[]): ∃(j:Nat) (p:aC),max 0 (MB l)=(j:Int)∧l[j]? =some p∧IW p=sZ l:=by
 obtain⟨a,r,rfl⟩:=List.exists_cons_of_ne_nil hl;have h:=Uk (l:=a::r);unfold MB sZ
 cases hi:(a::r).findIdx? (fun p=> !decide (p.tag=[])) with
 | none=>
  rw [hi] at h;refine⟨0,a,by show max (0:Int) (-1)=0;rfl,rfl,?_⟩;simp only at h ⊢;rw [h];rfl
 | some i=>
  rw [hi] at h;obtain⟨p,h1,h2⟩:=h;refine⟨i,p,by simp only;omega,h1,?_⟩;simp only;rw [h2];rfl
structure ng (l:List aC):Prop where
 ok: ∀p∈l,p.Ok∧p.sources.length≤1000
 id: ∀p∈l,p.id.length≤1000000
 n:l.length<20
structure wF (t:bn):Prop where
 pt: ∀p∈t.net.pts,p.name.length≤1000000
 p:t.net.pts.length≤1000
 l:t.net.lks.length≤1000
 s:t.sys.length≤1000
theorem Ic {l:List aC} {p:aC} (hp:p∈bO l):p∈l:=by
 have:=lN hp;rw [List.take_length] at this;exact l8.1 this
theorem QX (l:List aC):(bO l).length≤l.length:=by
 have:=ru (dZ l) (dZ l).length;rw [og] at this;rw [bO,og];exact this
theorem ng.once {l:List aC} (h:ng l):ng (bO l):=⟨fun p hp=>h.ok p (Ic hp),fun p hp=>h.id p (Ic hp),Nat.lt_of_le_of_lt (QX l) h.n⟩
theorem ng.of {l:List aC} (h:ng l)(v:Bytes):ng (tT l v):=⟨fun p hp=>h.ok p (Cu hp).1,fun p hp=>h.id p (Cu hp).1,Nat.lt_of_le_of_lt (yL l v) h.n⟩
theorem UC {t:bn} {veh:Bytes} {cls:Bytes→Int} {w:dG} (h: ∀x∈w.trips,x.stops≠[])(s:bq): ∀x∈(dA t veh cls w s).trips,x.stops≠[]:=by
 have: ∀x∈(jJ t veh cls w s).trips,x.stops≠[]:=by
  unfold jJ;split <;> simp only [List.mem_append,List.mem_singleton]
  case h_1=>rintro x (hx | rfl);exact h x hx;simp [iC]
  case h_3=>rintro x (hx | rfl);exact h x hx;simp [iC]
  all_goals exact h
 unfold dA;split <;> exact this
theorem KX {t:bn} {veh:Bytes} {cls:Bytes→Int}: ∀(l:List bq) (w:dG),(∀x∈w.trips,x.stops≠[])→ ∀x∈(l.foldl (dA t veh cls) w).trips,x.stops≠[]
 | [],w,h=>h
 | s::l,w,h=>KX l _ (UC h s)
theorem zx (t:bn)(l:List aC)(v:Bytes): ∀x∈(bY t l v).trips,x.stops≠[]:=KX _ _ (by simp [dQ])
set_option maxHeartbeats 4000000 in
theorem OL (t:bn)(l:List aC) {x:AV} (hx:Rs 8 h x (l.map aj))(hL:ng l)(hT:wF t)(hE:(fJ t l).out.length<20):
  af Tryz.prog gl 12 [.agg (av t),x] h fun v h'=> ∃x y,v= .tup [x,y]∧Ls 5 h.length h' x ((bP (fJ t l).trips).map aH)∧Ls 2 h.length h' y ((mW (fJ t l).out).map aM)∧ ∃g,h'=h++g:=by
 refine af.body Tryz.f12 _ mixed Tryz.func12 rfl rfl (by simp [Tryz.ntmps12]) ?_;have fx:=hx.fix;simp [fx,av];refine ay.pure _ (fun _=>IU l (hx.append _) hL.ok hL.n) ?_;have hL1:=hL.once;have hB:=zx t (bO l) (sZ (bO l));have hBl:=qG t (bO l) (sZ (bO l));unfold fJ at hE ⊢;generalize bO l=L at*;have hLn:=hL1.n;have key: ∀fr:aP,fr 2= .ptr h.length 0 0→fr 6= .ro (L.map aj)→True:=fun _ _ _=>trivial;clear key;have fin: ∀ {v':AV} {h2:ak},(∃x y,v'= .tup [x,y]∧Ls 5 (h.length+1) h2 x ((bY t L (sZ L)).trips.map aH)∧Ls 2 (h.length+1) h2 y ((bY t L (sZ L)).out.map aM)∧ ∃g,h2=(h++[.cells 3 [av t]])++g)→
   ∃x y,v'= .tup [x,y]∧(x.core=x∧x.gd=true∧x.solid=true∧ah x=[x])∧(y.core=y∧y.gd=true∧y.solid=true∧ah y=[y])∧af Tryz.prog gl 38 [x,y] h2 fun v h'=>v= .tup [x,y]∧Ls 5 h.length h' x ((bP (bY t L (sZ L)).trips).map aH)∧Ls 2 h.length h' y ((mW (bY t L (sZ L)).out).map aM)∧ ∃g,h'=h++g:=by
  rintro v' h2 ⟨x,y,rfl,h1,h3,g,rfl⟩;refine⟨x,y,rfl,h1.rs.fix,h3.rs.fix,(BB (lo:=h.length) _ _ (kV h1 (by omega)) (kV h3 (by omega)) hB (by omega) (by omega)).mono ?_⟩;rintro v h' ⟨rfl,q1,q2,q3⟩;exact⟨rfl,q1,q2,q3 h (Nat.le_refl _) ⟨_,by rw [zK]⟩⟩
 have hbld:=FE (gl:=gl) (h:=h++[.cells 3 [av t]]) t L (sZ L) hL1.ok (by omega) hL1.id hT.pt hT.p hT.l hT.s;simp only [List.length_append,List.length_singleton] at hbld;by_cases hz:L=[]
 ·have hv:sZ L=[]:=by rw [hz];rfl
  simp [hz];rw [hv,hz] at hbld;refine ay.any (by simpa [av] using hbld) ?_;intro v' h2 hh;rw [←hz] at hh;rw [←hv] at hh;obtain⟨x,y,rfl,cx,cy,hs⟩:=fin (v':=v') (h2:=h2) (by simpa [av] using hh);simp [cx,cy];refine ay.any hs ?_;rintro v h' ⟨rfl,q1,q2,g,hg⟩;have hz':=hz;subst hz';simp [q1.rs.fix,q2.rs.fix];exact⟨x,y,⟨rfl,rfl⟩,q1,q2,g,hg⟩
 ·obtain⟨j,p,hj1,hj2,hj3⟩:=Rv hz;have hjl:=aK hj2;have hj2':=(zA.1 hj2).2;have hpos:L.length≠0:=by omega
  have hposI: ¬((L.length:Int)≤0):=by omega
  have hpos2:0<L.length:=by omega
  simp [hz,hpos,hposI,hpos2];refine ay.pure _ (fun _=>Am L (by omega)) ?_;simp [hj1,hj2,hj2',hjl,aj];refine ay.pure _ (fun _=>by simpa [aj] using BP p) ?_;simp [hj3];refine ay.any (by simpa [av] using hbld) ?_;intro v' h2 hh;obtain⟨x,y,rfl,cx,cy,hs⟩:=fin (v':=v') (h2:=h2) (by simpa [av] using hh);simp [cx,cy];refine ay.any hs ?_;rintro v h' ⟨rfl,q1,q2,g,hg⟩;simp [q1.rs.fix,q2.rs.fix];exact⟨x,y,⟨rfl,rfl⟩,q1,q2,g,hg⟩
theorem CQ (t:bn)(l:List aC)(i:Nat)(V:List Bytes):(((V.take i).map fun v=>bY t (tT l v) v).flatMap (·.trips)).length≤i*(17*l.length)∧(((V.take i).map fun v=>bY t (tT l v) v).flatMap (·.out)).length≤i*(19*l.length):=by
 have hb: ∀v,(bY t (tT l v) v).trips.length≤17*l.length∧(bY t (tT l v) v).out.length≤19*l.length:=fun v=>by
  have h1:=qG t (tT l v) v;have h2:=yL l v;constructor <;> omega
 have hi:((V.take i).map fun v=>bY t (tT l v) v).length≤i:=by simp;omega
 constructor
 ·refine Nat.le_trans (DF (k:=17*l.length) fun w hw=> ?_) (Nat.mul_le_mul_right _ hi);obtain⟨v,_,rfl⟩:=List.mem_map.1 hw;exact (hb v).1
 ·refine Nat.le_trans (DF (k:=19*l.length) fun w hw=> ?_) (Nat.mul_le_mul_right _ hi);obtain⟨v,_,rfl⟩:=List.mem_map.1 hw;exact (hb v).2
def eP (t:bn)(L:List aC)(V:List Bytes)(i:Nat):List dB:=((V.take i).map fun v=>bY t (tT L v) v).flatMap (·.trips)
def iZ (t:bn)(L:List aC)(V:List Bytes)(i:Nat):List fI:=((V.take i).map fun v=>bY t (tT L v) v).flatMap (·.out)
theorem BC {t:bn} {L:List aC} {V:List Bytes} {i:Nat} {v:Bytes} (h:V[i]? =some v):eP t L V (i+1)=eP t L V i++(bY t (tT L v) v).trips∧iZ t L V (i+1)=iZ t L V i++(bY t (tT L v) v).out:=by
 constructor <;> simp [eP,iZ,zM,h]
theorem FH (l:List dB): ∀e∈l.map aH,∀y∈e,y.Data:=fun e he y hy=>by
 obtain⟨m,_,rfl⟩:=List.mem_map.1 he;simp only [aH,List.mem_cons,List.not_mem_nil,or_false] at hy;rcases hy with rfl | rfl | rfl | rfl | rfl
 all_goals first | exact .ro _ (fun e he y hy=>by obtain⟨s,_,rfl⟩:=List.mem_map.1 he;simp [aa] at hy;rcases hy with rfl | rfl | rfl <;> simp) | simp
theorem Jn (l:List fI): ∀e∈l.map aM,∀y∈e,y.Data:=fun e he y hy=>by
 obtain⟨m,_,rfl⟩:=List.mem_map.1 he;simp [aM] at hy;rcases hy with rfl | rfl <;> simp
theorem MF (t:bn)(l:List aC)(v:Bytes)(hL:ng l)(hT:wF t):
  af Tryz.prog gl 39 [.agg (av t),.ro (l.map aj),.str v] h fun x h'=>x= .tup [.ro ((bY t l v).trips.map aH),.ro ((bY t l v).out.map aM)]∧h'=h:=by
 refine af.fresh' ((FE t l v hL.ok (by have:=hL.n;omega) hL.id hT.pt hT.p hT.l hT.s).mono ?_);rintro x h' ⟨x,y,rfl,hx,hy,hg⟩;exact⟨hg,.tup' (.cons (hx.frz (Nat.le_refl _) (FH _)) (.cons (hy.frz (Nat.le_refl _) (Jn _)) .nil))⟩
set_option maxHeartbeats 8000000 in
theorem Ul (t:bn)(l:List aC) {x:AV} (hx:Rs 8 h x (l.map aj))(hL:ng l)(hT:wF t)(hE:(pg t l).length<20):
  af Tryz.prog gl 16 [.agg (av t),x] h fun v h'=> ∃x y,v= .tup [x,y]∧Ls 5 h.length h' x ((bP (allT t l)).map aH)∧Ls 2 h.length h' y ((mW (pg t l)).map aM)∧ ∃g,h'=h++g:=by
 refine af.body Tryz.f16 _ mixed Tryz.func16 rfl rfl (by simp [Tryz.ntmps16]) ?_;have fx:=hx.fix;simp [fx,av];refine ay.pure _ (fun _=>IU l (hx.append _) hL.ok hL.n) ?_;have hL1:=hL.once;have eT:allT t l=eP t (bO l) (eX (bO l)) (eX (bO l)).length:=by rw [eP,List.take_length];rfl
 have eE:pg t l=iZ t (bO l) (eX (bO l)) (eX (bO l)).length:=by rw [iZ,List.take_length];rfl
 rw [eE] at hE;rw [eT,eE];have hne: ∀i,∀a∈eP t (bO l) (eX (bO l)) i,a.stops≠[]:=fun i a ha=>by
  obtain⟨w,hw,ha⟩:=List.mem_flatMap.1 ha;obtain⟨v,_,rfl⟩:=List.mem_map.1 hw;exact zx _ _ _ a ha
 have hVl:=AC (bO l);generalize bO l=L at*;clear eT eE hx fx hL;have hLn:=hL1.n;simp;refine ay.pure _ (fun _=>Ag L hLn) ?_;generalize eX L=V at*;have hlen: ∀i,i≤V.length→(eP t L V i).length≤8000∧(iZ t L V i).length≤8000:=fun i hi=>by
  have h1:=CQ t L i V;have h2:i*(17*L.length)≤20*(17*20):=Nat.mul_le_mul (by omega) (by omega);have h3:i*(19*L.length)≤20*(19*20):=Nat.mul_le_mul (by omega) (by omega);unfold eP iZ;omega
 simp;refine aW.up mixed V.length (fun i fr H=>fr 2= .ptr h.length 0 0∧fr 6= .ro (L.map aj)∧fr 16= .ro (V.map aO)∧fr 17= .int .i64 V.length∧fr 18= .int .i64 i∧(∃g,H=(h++[.cells 3 [av t]])++g)∧
   (∃x,fr 7=x∧Ls 5 (h.length+1) H x ((eP t L V i).map aH))∧ ∃y,fr 8=y∧Ls 2 (h.length+1) H y ((iZ t L V i).map aM)) 0 (by omega)
  ⟨by simp,by simp,by simp,by simp,by simp,⟨[],by simp [av]⟩,⟨.nil,by simp,by simpa [eP] using Ls.nil⟩,.nil,by simp,by simpa [iZ] using Ls.nil⟩ ?_
 rintro i fr H hi ⟨e2,e6,e16,e17,e18,hB,⟨x,e7,hx⟩,y,e8,hy⟩;have fx:=hx.rs.fix;have fy:=hy.rs.fix;have hlB:=aV hB;simp at hlB;have hT0:H[h.length]? =some (.cells 3 [av t]):=by obtain⟨g,rfl⟩:=hB;simp
 have hT3:=at3 hT0;simp only [av] at hT3;have hli:=hlen i hi;rcases zN i V.length with hlt | hge
 ·obtain⟨v,hv,hv'⟩:=aN hlt;have ew:=aB (i:=i) (by omega);have hltI:(i:Int)<V.length:=by omega
  obtain⟨q1,q2⟩:=BC (t:=t) (L:=L) hv;have hLv:=hL1.of v;have hol:=yL L v;have hbl:=qG t (tT L v) v;simp [-ae,-ai,-ah,-AV.solid,e2,e6,e7,e8,e16,e17,e18,hlt,hltI,hv,hv',hT3,aO];refine⟨by decide,?_⟩;refine ay.pure _ (fun _=>N7 L v hL1.ok hLn) ?_;simp [-ae,-ai,-ah,-AV.solid,e2,e6,e7,e8,e16,e17,e18,hlt,hltI,hv,hv',hT3,aO];refine ay.pure _ (fun _=>by simpa [av] using MF t (tT L v) v hLv hT) ?_;simp [-ae,-ai,-ah,-AV.solid,e2,e6,e7,e8,e16,e17,e18,fx,fy];refine aG (lo:=h.length+1) (n:=5) (es:=(eP t L V i).map aH) (ys:=(bY t (tT L v) v).trips.map aH) hx (by omega) (bL (Rs.ro (OM _)) (by simp) (by simp) (by simp)) (by simp;omega) ?_;intro s1 H1 hs1 hg1 hn1;have hs1f:=hs1.rs.fix;have hy1:=fO hy hx (by decide) hg1;have hB1:=hg1.base (h++[.cells 3 [av t]]) (by simp) hB;simp [-ae,-ai,-ah,-AV.solid,e2,e6,e7,e8,e16,e17,e18,fx,fy,hs1f];refine aG (lo:=h.length+1) (n:=2) (es:=(iZ t L V i).map aM) (ys:=(bY t (tT L v) v).out.map aM) hy1 (by have:=aV hB1;simp at this;omega) (bL (Rs.ro (Si _)) (by simp) (by simp) (by simp)) (by simp;omega) ?_;intro s2 H2 hs2 hg2 hn2;have hs2f:=hs2.rs.fix;have hx2:=fO hs1 hy1 (by decide) hg2;have hB2:=hg2.base (h++[.cells 3 [av t]]) (by simp) hB1;simp [-ae,-ai,-ah,-AV.solid,e2,e6,e7,e8,e16,e17,e18,fx,fy,hs1f,hs2f,ew];refine⟨i+1,by omega,by omega,by omega,by simpa using hB2,?_,?_⟩
  ·rw [q1];simpa using hx2
  ·rw [q2];simpa using hs2
 ·obtain rfl:i=V.length:=by omega
  simp [-ae,-ai,-ah,-AV.solid,e2,e6,e7,e8,e16,e17,e18,fx,fy];refine ay.any (BB (lo:=h.length) _ _ (kV hx (by omega)) (kV hy (by omega)) (hne _) (by omega) (by omega)) ?_;rintro v h' ⟨rfl,q1,q2,q3⟩;simp [q1.rs.fix,q2.rs.fix];obtain⟨g,hg⟩:=hB;exact⟨x,y,⟨rfl,rfl⟩,q1,q2,q3 h (Nat.le_refl _) ⟨_,by rw [hg,zK]⟩⟩
end Go.Proofs.YtkpioblbeiaefaaGreat
end
section
namespace Go.Toll
open Go Go.Abs
theorem LA {l:List aC} (hd:(l.map (·.id)).Nodup): ∀n:Nat,n≤l.length→ ∀(i:Nat) (p:aC),i<n→l[i]? =some p→iW (jl l n) p.id=some p.cls
 | 0,_,i,p,h,_=>absurd h (by omega)
 | n+1,hn,i,p,hi,hp=>by
  have ih:=LA hd n (by omega);obtain⟨q,hq,_⟩:=aN (l:=l) (i:=n) (by omega);rw [jl,hq];simp only;rw [zV];by_cases c:p.id=q.id
  ·rw [if_pos c];have h1:(l.map (·.id))[i]? =some q.id:=by rw [List.getElem?_map,hp,←c];rfl
   have h2:(l.map (·.id))[n]? =some q.id:=by rw [List.getElem?_map,hq];rfl
   obtain rfl:=vR hd h1 h2;rw [hq] at hp;cases hp;rfl
  ·rw [if_neg c];have:i≠n:=fun e=>c (by subst e;rw [hq] at hp;cases hp;rfl);exact ih i p (by omega) hp
theorem filter_one {α β:Type} [DecidableEq β] {f:α→β}: ∀ {L:List α} {q:α},(L.map f).Nodup→q∈L→L.filter (fun p=>decide (f p=f q))=[q]
 | [],q,_,h=>by cases h
 | a::L,q,hd,h=>by
  rw [List.map_cons,List.nodup_cons] at hd;rw [List.filter_cons];rcases List.mem_cons.1 h with rfl | h
  ·rw [if_pos (by simp),List.filter_eq_nil_iff.2];intro x hx e;exact hd.1 (by rw [←of_decide_eq_true e];exact List.mem_map.2 ⟨x,hx,rfl⟩)
  ·rw [if_neg,filter_one hd.2 h];intro e;exact hd.1 (by rw [of_decide_eq_true e];exact List.mem_map.2 ⟨q,h,rfl⟩)
theorem U4 {v:bv} {l:List aC} (hd:(l.map (·.id)).Nodup):((fD v l).map (·.id)).Nodup:=by
 rw [List.nodup_iff_count];intro a;have h1:=uM (OC v l) l a l.length;rw [List.take_length] at h1;have h2:=List.nodup_iff_count.1 hd a;rw [fD];omega
theorem Sq {t:bn} {l:List aC} (hd:(l.map (·.id)).Nodup):((aX t l).map (·.id)).Nodup:=by
 unfold aX;exact List.Nodup.sublist ((List.filter_sublist (l:=l)).map _) hd
theorem Rt {t:bn} {l:List aC} (hd:(l.map (·.id)).Nodup): ∀s∈lm t l,s.pass≠[]→((fD (aI t).net (aX t l)).filter fun q=>decide (q.id=s.pass)).map (·.cls)=[qd (jl l l.length) s.pass]:=by
 intro s hs hp;rcases ((oU (PL t) (l:=fD (aI t).net (aX t l))).1 s hs).pass with h | ⟨q,hq,e⟩
 ·exact absurd h hp
 ·rw [e,filter_one (f:=fun p:aC=>p.id) (U4 (Sq hd)) hq];obtain⟨i,hi,hqi⟩:=List.mem_iff_getElem.1 (oJ (nW hq));rw [qd,LA hd l.length (Nat.le_refl _) i q hi (by rw [zB hi,hqi])];rfl
theorem Mr (A C:List dB):bP (A++bP C)=bP (A++C):=E5 Zj A C
theorem Mo (A C:List fI):bR (A++bR C)=bR (A++C):=E5 Zh A C
theorem Vq {t:bn} {veh:Bytes} {cls:Bytes→Int} {w:dG} {s:bq} {k:Nat} (h1: ∀x∈w.trips,x.stops.length≤k)(h2:w.opn.length≤k):(∀x∈(dA t veh cls w s).trips,x.stops.length≤k+1)∧(dA t veh cls w s).opn.length≤k+1:=by
 have key:(∀x∈(jJ t veh cls w s).trips,x.stops.length≤k+1)∧(jJ t veh cls w s).opn.length≤k+1:=by
  unfold jJ;split
  ·refine⟨fun x hx=> ?_,by simp;omega⟩;rcases List.mem_append.1 hx with hx | hx
   ·have:=h1 x hx;omega
   ·obtain rfl:=List.mem_singleton.1 hx;simp [iC]
  ·exact⟨fun x hx=>by have:=h1 x hx;omega,by simp⟩
  ·refine⟨fun x hx=> ?_,by simp⟩;rcases List.mem_append.1 hx with hx | hx
   ·have:=h1 x hx;omega
   ·obtain rfl:=List.mem_singleton.1 hx;simp [iC];omega
  ·exact⟨fun x hx=>by have:=h1 x hx;omega,by simp;omega⟩
  ·exact⟨fun x hx=>by have:=h1 x hx;omega,by simp⟩
  ·exact⟨fun x hx=>by have:=h1 x hx;omega,by simp;omega⟩
 unfold dA;split <;> exact key
theorem Pj {t:bn} {veh:Bytes} {cls:Bytes→Int}: ∀(l:List bq) (w:dG) (k:Nat),(∀x∈w.trips,x.stops.length≤k)→w.opn.length≤k→ ∀x∈(l.foldl (dA t veh cls) w).trips,x.stops.length≤k+l.length
 | [],w,k,h1,_=>h1
 | s::l,w,k,h1,h2=>fun x hx=>by
  obtain⟨q1,q2⟩:=Vq (t:=t) (veh:=veh) (cls:=cls) (s:=s) h1 h2;have:=Pj l _ (k+1) q1 q2 x hx;simp;omega
theorem KF (t:bn)(l:List aC)(v:Bytes): ∀x∈(bY t l v).trips,x.stops.length≤17*l.length:=fun x hx=>by
 have h:=Pj (t:=t) (veh:=v) (cls:=qd (jl l l.length)) (lm t l) (dQ t l (eZ (aI t).net (aX t l))) 0 (by simp [dQ]) (by simp [dQ]) x hx;have h1:=(oU (PL t) (l:=fD (aI t).net (aX t l))).2;have h2:(fD (aI t).net (aX t l)).length≤l.length:=Nat.le_trans (rW _ _ _) (iI t l);have h3:(lm t l).length≤17*l.length:=Nat.le_trans h1 (by omega);omega
theorem UE (t:bn)(l:List aC): ∀x∈allT t l,x.stops.length≤17*l.length:=fun x hx=>by
 obtain⟨w,hw,hx⟩:=List.mem_flatMap.1 hx;obtain⟨v,_,rfl⟩:=List.mem_map.1 hw;have h1:=KF _ _ _ x hx;have h2:=yL (bO l) v;have h3:=oN l;omega
theorem Tf {t:bn} {l:List aC} (h: ∀p∈l,qD t p): ∀p∈bO l,qD t p:=fun p hp=>h p (LJ hp)
theorem Nc {t:bn} (hz:bZ t=0) {l:List aC} (h: ∀p∈l,qD t p)(hn:l.length≤1024)(v:Bytes):(bY t l v).out.length≤l.length:=by
 have hp:(pu (bY t l v)).Perm (l.map (·.id)):=List.perm_iff_count.2 fun a=>uq hz h hn v a;have:=hp.length_eq;rw [pu,List.length_append,List.length_map,List.length_map] at this;omega
theorem RS {t:bn} (hz:bZ t=0) {l:List aC} (h: ∀p∈l,qD t p)(hn:l.length≤1024):(pg t l).length≤l.length:=by
 have hp:(((allT t l).flatMap fun x=>bg x.stops)++(pg t l).map (·.id)).Perm ((bO l).map (·.id)):=
  List.perm_iff_count.2 fun a=>by rw [List.count_append];exact CP hz h hn a
 have:=hp.length_eq;have h1:=oN l;rw [List.length_append,List.length_map,List.length_map] at this;omega
end Go.Toll
end
section
namespace Go.Proofs.YtkpioblbeiaefaaGreat
open Go Go.Abs Go.Toll
variable {gl : aR} {h : ak}
theorem Ro.keepG {n m lo lo':Nat} {H H':ak} {x y:AV} {es es':List (List AV)} (r:Ro n lo H x es)(hy:Ls m lo' H y es')(hnm:n≠m)(g:Grow lo' H y H'):Ro n lo H' x es:=by
 rcases r with r | r
 ·rcases r with r | r
  ·exact .inl (.inl (fO r hy hnm g))
  ·exact .inl (.inr r)
 ·exact .inr r
theorem Ro.lendB {n lo:Nat} {h0 H:ak} {x:AV} {es:List (List AV)} (r:Ro n lo H x es)(hl:h0.length≤lo)(hB: ∃g,H=h0++g): ∃ks,gq ks H x (.ro es)∧ ∃g,killL H ks=h0++g:=by
 obtain⟨ks,h1,h2⟩:=r.lend;obtain⟨g,rfl⟩:=hB;exact⟨ks,h2,jk ks h0 g fun b hb=>by have:=(h1 b hb).1;omega⟩
set_option maxHeartbeats 4000000 in
theorem Bn (t:bn)(l:List aC)(veh:Bytes)(hz:bZ t=0)(hL:ng l)(hT:wF t)(hd:(l.map (·.id)).Nodup):
  af Tryz.prog gl 41 [.agg (av t),.str veh,.ro (l.map aj)] h fun v h'=>v= .tup [.ro ((bP (bY t l veh).trips).map aH),.ro ((bR (bY t l veh).out).map aM)]∧h'=h:=by
 refine af.fresh' (af.body Tryz.f41 _ mixed Tryz.func41 rfl rfl (by simp [Tryz.ntmps41]) ?_);have hn:=hL.n;have hp:=hT.p;have hl:=hT.l;have hsy:=hT.s;have hv:=iD hz;have hcl:=Rt (t:=t) hd;obtain⟨hS1,hS2⟩:=oU (PL t) (l:=fD (aI t).net (aX t l));have hKl:(fD (aI t).net (aX t l)).length≤l.length:=Nat.le_trans (rW _ _ _) (iI t l);have hOl:(eZ (aI t).net (aX t l)).length≤l.length:=Nat.le_trans (uV _ _ _) (iI t l);have hKid: ∀p∈fD (aI t).net (aX t l),p.id.length≤1000000:=fun p hp=>hL.id p (oJ (nW hp));have hSt: ∀s∈(fV (aI t).net (fD (aI t).net (aX t l))).1,(∃p,bH t.net s.point=some p)∧(0≤s.time∧s.time<68719476736)∧s.point.length≤1000000∧s.pass.length≤1000000:=fun s hs=>by
  have h1:=hS1 s hs;have h2:=h1.point;rw [hv] at h2;have hn':=fC t;rw [hv] at hn';obtain⟨q,hq,e⟩:=List.any_eq_true.1 h2;have e':q.name=s.point:=by simpa using e
  refine⟨?_,h1.time,by rw [←e'];exact hT.pt q hq,?_⟩
  ·cases hf:bH t.net s.point with
   | some p=>exact⟨p,rfl⟩
   | none=>
    rw [bH,if_pos hn'] at hf;exact absurd e (by simpa using List.find?_eq_none.1 hf q hq)
  ·rcases h1.pass with e | ⟨p,hp,e⟩
   ·rw [e];simp
   ·rw [e];exact hKid p hp
 have hBm:bY t l veh=Ca t veh (qd (jl l l.length)) ⟨[],fG t l++eZ (aI t).net (aX t l),[],[],[]⟩ (fV (aI t).net (fD (aI t).net (aX t l))).1:=rfl;rw [hBm];have hcl': ∀s∈(fV (aI t).net (fD (aI t).net (aX t l))).1,s.pass≠[]→((fD (aI t).net (aX t l)).filter fun q=>decide (q.id=s.pass)).map (·.cls)=[qd (jl l l.length) s.pass]:=hcl;clear hcl hBm;have hfl:=qU t l;simp [av];refine aW.up mixed l.length (fun i fr H=>fr 1= .str veh∧fr 2= .ro (l.map aj)∧fr 3= .ptr h.length 0 0∧fr 10= .int .i64 i∧(∃g,H=(h++[.cells 3 [av t]])++g)∧
   (∃x,fr 8=x∧Ro 2 (h.length+1) H x ((bR (fG t (l.take i))).map aM))∧ ∃y,fr 9=y∧Ls 8 (h.length+1) H y ((aX t (l.take i)).map aj)) 0 (by omega)
  ⟨by simp,by simp,by simp,by simp,⟨[.cells 2 [],.cells 8 []],by simp [av]⟩,⟨_,rfl,.ls (Ls.own (b:=h.length+1) (by simp [fG,bR,aT]) (by omega) (by simp [fG,bR,aT]) (by simp [fG,bR,aT]))⟩,
   _,rfl,Ls.own (b:=h.length+1+1) (by rw [zD (by omega),show h.length+1+1 - h.length=2 from by omega];simp [aX]) (by omega) (by simp [aX]) (by simp [aX])⟩ ?_
 rintro i fr H hi ⟨e1,e2,e3,e10,hB,⟨x,e8,hx⟩,y,e9,hy⟩;have fx:=hx.rs.fix;have fy:=hy.rs.fix;have hlB:=aV hB;simp at hlB;have hT0:H[h.length]? =some (.cells 3 [av t]):=by obtain⟨g,rfl⟩:=hB;simp
 have hT3:=at3 hT0;simp only [av] at hT3;rcases zN i l.length with hlt | hge
 ·obtain⟨p,hg,hg'⟩:=aN hlt;have ew:=aB (i:=i) (by omega);have hltI:(i:Int)<l.length:=by omega
  have hf1:=xk (t:=t) hg;have hk1:=uP (t:=t) hg;have hfl:=qU t (l.take i);have hkl:=iI t (l.take i);have htl:=List.length_take_le i l;simp [-ae,-ai,-ah,-AV.solid,aj,e1,e2,e3,e8,e9,e10,hlt,hltI,hg,hg',hT3];refine⟨by decide,?_⟩;refine ay.pure _ (fun _=>by simpa [av] using Gt t p.point hp hl hsy) ?_;by_cases hk:kindOf t p.point=0
  ·rw [if_pos hk] at hf1 hk1;simp [-ae,-ai,-ah,-AV.solid,aj,e1,e2,e3,e8,e9,e10,hlt,hltI,hg,hg',hk,fx];refine ay.pure _ (fun _=>jo (fG t (l.take i)) ⟨p.id,3⟩ hx.rs (by omega)) ?_;simp [-List.map_take,e1,e2,e3,e8,e9,e10,ew];refine⟨i+1,by omega,by omega,by omega,by simpa using hB,?_,?_⟩
   ·rw [hf1];exact .ro (Np _)
   ·rw [hk1];exact hy
  ·rw [if_neg hk] at hf1 hk1;simp [-ae,-ai,-ah,-AV.solid,aj,e1,e2,e3,e8,e9,e10,hlt,hltI,hg,hg',hk,fy];refine aG (lo:=h.length+1) (n:=8) (es:=(aX t (l.take i)).map aj) (ys:=[aj p]) (by simpa [aj] using hy.more _) (by simp;omega) (by simp [bu,aj]) (by simp;omega) ?_;intro s1 H1 hs1 hg1 hn1;have hg1:Grow (h.length+1) (H++[.cells 8 [aj p]]) y H1:=by simpa [aj] using hg1
   have hs1f:=hs1.rs.fix;have hx1:=(hx.more [.cells 8 [aj p]]).keepG (hy.more _) (by decide) hg1;have hB1:=hg1.base (h++[.cells 3 [av t]]) (by simp) (aF hB _);simp [-ae,-ai,-ah,-AV.solid,-List.map_take,e1,e2,e3,e8,e9,e10,hs1f,ew];refine⟨i+1,by omega,by omega,by omega,by simpa using hB1,?_,?_⟩
   ·rw [hf1];exact hx1
   ·rw [hk1];simpa using hs1
 ·obtain rfl:i=l.length:=by omega
  rw [List.take_length] at hx hy;obtain⟨ks,hkf,hkg,hkn⟩:=Go.Toll.Ls.lendG hy;have hx1:=hx.keepG hy (by decide) hkg;have hB1:=hkg.base (h++[.cells 3 [av t]]) (by simp) hB;have hsp:=Me (gl:=gl) (h:=killL H ks) t (aX t l) (fun p h=>hL.ok p (oJ h)) (by have:=iI t l;omega) hp hl hsy;have hsp1:af Tryz.prog gl 79 [.agg (av t),y] H fun v h'=>v=splitV (aI t).net (aX t l)∧h'=killL H ks:=af.lend ks (.cons (.same _) (.cons hkf .nil)) hsp;have hspv:splitV (aI t).net (aX t l)= .tup [.ro ((fD (aI t).net (aX t l)).map aj),.ro ((eZ (aI t).net (aX t l)).map aM)]:=rfl;rw [hspv] at hsp1;have hw:=fun H=>Oi (gl:=gl) (h:=H) t veh (fV (aI t).net (fD (aI t).net (aX t l))).1 (fD (aI t).net (aX t l)) (fG t l++eZ (aI t).net (aX t l)) (qd (jl l l.length)) hz hSt hcl' (by omega) (by simp;omega) (by omega) hp hl hsy;have hstp:=fun H=>Mf (gl:=gl) (h:=H) t (fD (aI t).net (aX t l)) hp hl hsy (by omega);unfold Au at hstp;clear hspv hsp hcl' hSt hKid hS1 hS2;generalize (fV (aI t).net (fD (aI t).net (aX t l))).1=S at*;generalize (fV (aI t).net (fD (aI t).net (aX t l))).2=E at*;generalize eZ (aI t).net (aX t l)=O at*;generalize fD (aI t).net (aX t l)=K at*;generalize killL H ks=H0 at*;have hT1:H0[h.length]? =some (.cells 3 [av t]):=by obtain⟨g,rfl⟩:=hB1;simp
  have hT4:=at3 hT1;simp only [av] at hT4;simp [-ae,-ai,-ah,-AV.solid,e1,e2,e3,e8,e9,e10,hT3,fy];refine ay.any (by simpa [av] using hsp1) ?_;rintro v h1 ⟨rfl,rfl⟩;simp [-ae,-ai,-ah,-AV.solid,e1,e2,e3,e8,e9,e10];refine aW.up mixed O.length (fun k fr H=>fr 1= .str veh∧fr 3= .ptr h.length 0 0∧fr 11= .ro (K.map aj)∧fr 12= .ro (O.map aM)∧fr 13= .int .i64 k∧h1=H∧
    ∃x,fr 8=x∧Ro 2 (h.length+1) H x ((bR (fG t l++O.take k)).map aM)) 0 (by omega)
   ⟨by simp [e1],by simp [e3],by simp,by simp,by simp,rfl,x,by simp [e8],by simpa using hx1⟩ ?_
  clear e1 e2 e3 e8 e9 e10 hx hx1 fx hsp1;rintro k fr H' hk ⟨e1,e3,e11,e12,e13,rfl,x,e8,hx⟩;have fx:=hx.rs.fix;rcases zN k O.length with hkl | hkg
  ·obtain⟨e,he,he'⟩:=aN hkl;have ew:=aB (i:=k) (by omega);have hkI:(k:Int)<O.length:=by omega
   have htk:O.take (k+1)=O.take k++[e]:=by rw [zM,he];rfl
   simp [aM,e1,e3,e8,e11,e12,e13,hkl,hkI,he,he',fx];refine⟨by decide,?_⟩;refine ay.pure _ (fun _=>jo (fG t l++O.take k) e hx.rs (by simp;omega)) ?_;simp [-List.map_take,e1,e3,e8,e11,e12,e13,ew];refine⟨k+1,by omega,by omega,by omega,?_⟩;rw [htk,←zK];exact .ro (Np _)
  ·obtain rfl:k=O.length:=by omega
   rw [List.take_length] at hx;obtain⟨ks2,hf2,hb2⟩:=hx.lendB (h0:=h++[.cells 3 [av t]]) (by simp) hB1;have hw1:af Tryz.prog gl 81 [.agg (av t),.str veh,.ro (S.map aa),.ro (K.map aj),x] h1 fun v h'=>v= .tup [.ro ((bP (Ca t veh (qd (jl l l.length)) ⟨[],fG t l++O,[],[],[]⟩ S).trips).map aH),.ro ((bR (Ca t veh (qd (jl l l.length)) ⟨[],fG t l++O,[],[],[]⟩ S).out).map aM)]∧h'=killL h1 ks2:=
    af.lend ks2 (.cons (.same _) (.cons (.same _) (.cons (.same _) (.cons (.same _) (.cons hf2 .nil))))) (hw _)
   simp [e1,e3,e8,e11,e12,e13,hT4,fx];refine ay.pure _ (fun _=>by simpa [av] using hstp h1) ?_;simp [e1,e3,e8,e11,e12,e13,hT4,fx];refine ay.any (by simpa [av] using hw1) ?_;rintro v h2 ⟨rfl,rfl⟩;simp;obtain⟨g2,hg2⟩:=hb2;exact⟨⟨_,by rw [hg2,zK]⟩,.tup' (.cons (.data _ (.ro _ (l9 _))) (.cons (.data _ (.ro _ (kU _))) .nil))⟩
def OU (L:List aC)(a:aC)(k:Nat):Bytes:=match (L.drop k).find? fun p=> !decide (p.tag=[]) with
 | some p=>p.tag
 | none=>IW a
theorem RH {L:List aC} {a:aC} {r:List aC} (h:L=a::r):OU L a 0=sZ L:=by
 subst h;rw [OU,sZ,List.drop_zero]
 cases hf:(a::r).find? fun p=> !decide (p.tag=[]) with
 | none=>rfl
 | some p=>
  have:=List.find?_some hf;have hp:p.tag≠[]:=by simpa using this
  show p.tag=MR p.tag p.plate;rw [MR,if_neg hp]
theorem RG {L:List aC} {a p:aC} {j:Nat} (h:L[j]? =some p):OU L a j=if p.tag=[] then OU L a (j+1) else p.tag:=by
 unfold OU;rw [bF h,List.find?_cons];by_cases c:p.tag=[] <;> simp [c]
theorem Qk (t:bn)(v:Bytes):(bY t [] v).trips=[]∧(bY t [] v).out=[]:=by
 have h:=qG t [] v;simp at h;exact h
set_option maxHeartbeats 4000000 in
theorem Mh (t:bn)(l:List aC) {x:AV} (hx:Rs 8 h x (l.map aj))(hz:bZ t=0)(hL:ng l)(hT:wF t):
  af Tryz.prog gl 13 [.agg (av t),x] h fun v h'=>v= .tup [.ro ((bP (fJ t l).trips).map aH),.ro ((bR (fJ t l).out).map aM)]∧h'=h:=by
 refine af.fresh' (af.body Tryz.f13 _ mixed Tryz.func13 rfl rfl (by simp [Tryz.ntmps13]) ?_);have hn:=hL.n;have fx:=hx.fix;simp [fx,av];refine ay.pure _ (fun _=>Bj l (hx.append _) (fun p hp=>(hL.ok p hp).1) (by omega)) ?_;have hL1:=hL.once;have hd:=Cv l;unfold fJ;generalize bO l=L at*
 cases hLe:L with
 | nil=>
  obtain⟨b1,b2⟩:=Qk t (sZ []);rw [b1,b2];simp [bP,bR,aT];exact .tup' (.cons .nil (.cons .nil .nil))
 | cons a r=>
  rw [←hLe];have hne: ¬L=[]:=by rw [hLe];simp
  have ha:L[0]? =some a:=by rw [hLe];rfl
  have ha':=(zA.1 ha).2;have hpos:=aK ha;have hposI: ¬((L.length:Int)=0):=by omega
  have hn1:=hL1.n;have w1:IntKind.i64.wrap ((L.length:Int) - 1)=(L.length:Int) - 1:=aD (by omega) (by omega);simp [hne,hposI,ha,ha',hpos,aj];refine ay.pure _ (fun _=>by simpa [aj] using Gn a) ?_;simp [w1];refine aW.down mixed (fun k fr H=>fr 2= .ptr h.length 0 0∧fr 6= .ro (L.map aj)∧fr 7= .str (OU L a k)∧fr 8= .int .i64 ((k:Int) - 1)∧k≤L.length∧h++[.cells 3 [av t]]=H) L.length
   ⟨by simp,by simp [hLe],by simp [OU,IW,MR],by simp,Nat.le_refl _,by simp [av]⟩ ?_
  rintro k fr H ⟨e2,e6,e7,e8,hk,rfl⟩
  cases k with
  | zero=>
   rw [RH hLe] at e7;have hneg: ¬(0:Int)≤ -1:=by omega
   simp [e2,e6,e7,e8,av];refine ay.pure _ (fun _=>by simpa [av] using Bn t L (sZ L) hz hL1 hT hd) ?_;simp;exact .tup' (.cons (.data _ (.ro _ (l9 _))) (.cons (.data _ (.ro _ (kU _))) .nil))
  | succ j=>
   obtain⟨p,hp,hp'⟩:=aN (l:=L) (i:=j) (by omega);have hjl:j<L.length:=by omega
   have e8':fr 8= .int .i64 (j:Int):=by rw [e8];congr 1;omega
   have hst:=RG hp (a:=a);have wj:IntKind.i64.wrap ((j:Int) - 1)=(j:Int) - 1:=aD (by omega) (by omega);by_cases c:p.tag=[]
   ·rw [if_pos c] at hst;simp [e2,e6,e7,e8',hp,hp',hjl,aj,c,wj];exact⟨j,by omega,by rw [hst],rfl,by omega⟩
   ·rw [if_neg c] at hst;simp [e2,e6,e7,e8',hp,hp',hjl,aj,c,wj];exact⟨j,by omega,by rw [hst],rfl,by omega⟩
set_option maxHeartbeats 4000000 in
theorem Q9 (t:bn)(l:List aC) {x:AV} (hx:Rs 8 h x (l.map aj))(hz:bZ t=0)(hL:ng l)(hT:wF t):
  af Tryz.prog gl 17 [.agg (av t),x] h fun v h'=>v= .tup [.ro ((bP (allT t l)).map aH),.ro ((bR (pg t l)).map aM)]∧h'=h:=by
 refine af.fresh' (af.body Tryz.f17 _ mixed Tryz.func17 rfl rfl (by simp [Tryz.ntmps17]) ?_);have hn:=hL.n;have fx:=hx.fix;have hok: ∀p∈l,p.Ok:=fun p hp=>(hL.ok p hp).1;simp [fx,av];refine ay.pure _ (fun _=>Bj l (hx.append _) hok (by omega)) ?_;have hL1:=hL.once;have hd:=Cv l;have eT:allT t l=eP t (bO l) (eX (bO l)) (eX (bO l)).length:=by rw [eP,List.take_length];rfl
 have eE:pg t l=iZ t (bO l) (eX (bO l)) (eX (bO l)).length:=by rw [iZ,List.take_length];rfl
 rw [eT,eE];have hne: ∀i,∀a∈eP t (bO l) (eX (bO l)) i,a.stops≠[]:=fun i a ha=>by
  obtain⟨w,hw,ha⟩:=List.mem_flatMap.1 ha;obtain⟨v,_,rfl⟩:=List.mem_map.1 hw;exact zx _ _ _ a ha
 have hVl:=AC (bO l);generalize bO l=L at*;clear eT eE hx fx hL;have hLn:=hL1.n;have hok1: ∀p∈L,p.Ok:=fun p hp=>(hL1.ok p hp).1;simp;refine ay.pure _ (fun _=>EK L hok1 (by omega)) ?_;generalize eX L=V at*;have hlen: ∀i,i≤V.length→(eP t L V i).length≤8000∧(iZ t L V i).length≤8000:=fun i hi=>by
  have h1:=CQ t L i V;have h2:i*(17*L.length)≤20*(17*20):=Nat.mul_le_mul (by omega) (by omega);have h3:i*(19*L.length)≤20*(19*20):=Nat.mul_le_mul (by omega) (by omega);unfold eP iZ;omega
 simp;refine aW.up mixed V.length (fun i fr H=>fr 2= .ptr h.length 0 0∧fr 6= .ro (L.map aj)∧fr 9= .ro (V.map aO)∧fr 10= .int .i64 i∧(∃g,H=(h++[.cells 3 [av t]])++g)∧
   (∃x,fr 7=x∧Ro 5 (h.length+1) H x ((bP (eP t L V i)).map aH))∧ ∃y,fr 8=y∧Ro 2 (h.length+1) H y ((bR (iZ t L V i)).map aM)) 0 (by omega)
  ⟨by simp,by simp,by simp,by simp,⟨[.cells 5 [],.cells 2 []],by simp [av]⟩,⟨_,rfl,.ls (Ls.own (b:=h.length+1) (by simp [eP,bP,aT]) (by omega) (by simp [eP,bP,aT]) (by simp [eP,bP,aT]))⟩,
   _,rfl,.ls (Ls.own (b:=h.length+1+1) (by rw [zD (by omega),show h.length+1+1 - h.length=2 from by omega];simp [iZ,bR,aT]) (by omega) (by simp [iZ,bR,aT]) (by simp [iZ,bR,aT]))⟩ ?_
 rintro i fr H hi ⟨e2,e6,e9,e10,hB,⟨x,e7,hx⟩,y,e8,hy⟩;have fx:=hx.rs.fix;have fy:=hy.rs.fix;have hT0:H[h.length]? =some (.cells 3 [av t]):=by obtain⟨g,rfl⟩:=hB;simp
 have hT3:=at3 hT0;simp only [av] at hT3;have hli:=hlen i hi;rcases zN i V.length with hlt | hge
 ·obtain⟨v,hv,hv'⟩:=aN hlt;have ew:=aB (i:=i) (by omega);have hltI:(i:Int)<V.length:=by omega
  obtain⟨q1,q2⟩:=BC (t:=t) (L:=L) hv;have hli1:=hlen (i+1) (by omega);have hLv:=hL1.of v;have hdv:=Xj hd v;have hne1:=hne (i+1);rw [q1] at hli1 hne1;rw [q2] at hli1;simp only [List.length_append] at hli1;simp [e2,e6,e7,e8,e9,e10,hlt,hltI,hv,hv',hT3,aO];refine⟨by decide,?_⟩;refine ay.pure _ (fun _=>TN L v hok1 (by omega)) ?_;simp [e2,e6,e7,e8,e9,e10,hlt,hltI,hv,hv',hT3,aO];refine ay.pure _ (fun _=>by simpa [av] using Bn t (tT L v) v hz hLv hT hdv) ?_;generalize hTT:(bY t (tT L v) v).trips=TT at*;generalize hEE:(bY t (tT L v) v).out=EE at*;have s1:bP (eP t L V (i+1))=bP (eP t L V i++bP TT):=by rw [q1,Mr]
  have s2:bR (iZ t L V (i+1))=bR (iZ t L V i++bR EE):=by rw [q2,Mo]
  have hneT: ∀z∈eP t L V i++bP TT,z.stops≠[]:=fun z hz=>hne1 z (by
   rcases List.mem_append.1 hz with h | h
   ·exact List.mem_append_left _ h
   ·exact List.mem_append_right _ ((dW _).1 h))
  have hTl:(bP TT).length=TT.length:=oQ _;have hEl:(bR EE).length=EE.length:=sU _;generalize eP t L V i=P at*;generalize iZ t L V i=Q at*;generalize bP TT=TT' at*;generalize bR EE=EE' at*;simp;refine aW.up mixed TT'.length (fun k fr H'=>fr 2= .ptr h.length 0 0∧fr 6= .ro (L.map aj)∧fr 9= .ro (V.map aO)∧fr 10= .int .i64 i∧fr 11= .ro (TT'.map aH)∧fr 12= .ro (EE'.map aM)∧fr 13= .int .i64 k∧fr 8=y∧H=H'∧
    ∃x,fr 7=x∧Ro 5 (h.length+1) H x ((bP (P++TT'.take k)).map aH)) 0 (by omega)
   ⟨by simp [e2],by simp [e6],by simp [e9],by simp [e10],by simp,by simp,by simp,by simp [e8],rfl,x,by simp [e7],by simpa using hx⟩ ?_
  clear e2 e6 e7 e8 e9 e10 fx hx;rintro k fr H' hk ⟨e2,e6,e9,e10,e11,e12,e13,e8,rfl,x,e7,hx⟩;have fx:=hx.rs.fix;rcases zN k TT'.length with hkl | hkg
  ·obtain⟨z,hz1,hz2⟩:=aN hkl;have ewk:=aB (i:=k) (by omega);have hkI:(k:Int)<TT'.length:=by omega
   have htk:TT'.take (k+1)=TT'.take k++[z]:=by rw [zM,hz1];rfl
   have hso:=yV (gl:=gl) (h:=H) (bP (P++TT'.take k)) z hx.rs (fu lS.swo _) (fun w hw=>hneT w (by
    have:=(dW _).1 hw;rcases List.mem_append.1 this with h | h
    ·exact List.mem_append_left _ h
    ·exact List.mem_append_right _ (List.mem_of_mem_take h))) (hneT z (List.mem_append_right _ (zF hz1))) (by rw [oQ,List.length_append,List.length_take];omega)
   rw [←Bt] at hso;simp [aH,e2,e6,e7,e8,e9,e10,e11,e12,e13,hkl,hkI,hz1,hz2,fx];refine ay.pure _ (fun _=>by simpa [aH] using hso) ?_;simp [e2,e6,e7,e8,e9,e10,e11,e12,e13,ewk];refine⟨k+1,by omega,by omega,by omega,?_⟩;rw [htk,←zK];exact .ro (PS _)
  ·obtain rfl:k=TT'.length:=by omega
   rw [List.take_length,←s1] at hx;simp [e2,e6,e7,e8,e9,e10,e11,e12,e13];refine aW.up mixed EE'.length (fun k fr H'=>fr 2= .ptr h.length 0 0∧fr 6= .ro (L.map aj)∧fr 9= .ro (V.map aO)∧fr 10= .int .i64 i∧fr 12= .ro (EE'.map aM)∧fr 14= .int .i64 k∧fr 7=x∧H=H'∧
     ∃y,fr 8=y∧Ro 2 (h.length+1) H y ((bR (Q++EE'.take k)).map aM)) 0 (by omega)
    ⟨by simp [e2],by simp [e6],by simp [e9],by simp [e10],by simp [e12],by simp,by simp [e7],rfl,y,by simp [e8],by simpa using hy⟩ ?_
   clear e2 e6 e7 e8 e9 e10 e11 e12 e13 fy hy;rintro k fr H' hk ⟨e2,e6,e9,e10,e12,e14,e7,rfl,y,e8,hy⟩;have fy:=hy.rs.fix;rcases zN k EE'.length with hkl | hkg
   ·obtain⟨z,hz1,hz2⟩:=aN hkl;have ewk:=aB (i:=k) (by omega);have hkI:(k:Int)<EE'.length:=by omega
    have htk:EE'.take (k+1)=EE'.take k++[z]:=by rw [zM,hz1];rfl
    simp [aM,e2,e6,e7,e8,e9,e10,e12,e14,hkl,hkI,hz1,hz2,fy];refine⟨by decide,?_⟩;refine ay.pure _ (fun _=>jo (Q++EE'.take k) z hy.rs (by simp;omega)) ?_;simp [-List.map_take,e2,e6,e7,e8,e9,e10,e12,e14,ewk];refine⟨k+1,by omega,by omega,by omega,?_⟩;rw [htk,←zK];exact .ro (Np _)
   ·obtain rfl:k=EE'.length:=by omega
    rw [List.take_length,←s2] at hy;simp [e2,e6,e7,e8,e9,e10,e12,e14,ew];exact⟨i+1,by omega,by omega,by omega,by simpa using hB,hx,hy⟩
 ·obtain rfl:i=V.length:=by omega
  simp [e2,e6,e7,e8,e9,e10,fx,fy];obtain⟨g,hg⟩:=hB;exact⟨⟨_,by rw [hg,zK]⟩,.tup' (.cons (hx.frz (by omega) (l9 _)) (.cons (hy.frz (by omega) (kU _)) .nil))⟩
end Go.Proofs.YtkpioblbeiaefaaGreat
end
