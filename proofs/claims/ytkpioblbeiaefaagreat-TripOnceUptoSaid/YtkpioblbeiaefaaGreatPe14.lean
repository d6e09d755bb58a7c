/- Part 14 of the lemmas below the statements of this seat: Text, Pass17, TollPassO, PassA, TollWalkB, TollAll, R21A, TollChainL. -/
import Derived.Test.YtkpioblbeiaefaaGreatPe13
set_option linter.unusedSectionVars false
set_option linter.unusedVariables false
set_option linter.unusedSimpArgs false
set_option linter.unnecessarySimpa false
set_option maxRecDepth 100000
section
namespace Go.Proofs.YtkpioblbeiaefaaGreat
open Go Go.Abs Go.Toll
variable {gl : aM} {h : ae}
theorem mM (l:List Bytes): ∀e∈l.map aR,∀y∈e,y.Data:=by
 intro e he y hy;obtain⟨s,_,rfl⟩:=List.mem_map.1 he;simp [aR] at hy;subst hy;simp
theorem LH (l:List Bytes): ∀e∈l.map aR,e.length=1:=by
 intro e he;obtain⟨s,_,rfl⟩:=List.mem_map.1 he;rfl
theorem FJ (a b:Bytes)(ha:iC a):aa Tryz.prog gl 92 [.str a,.str b] h fun v h'=>v= .bool (Op.bytesLess a b)∧h'=h:=by
 refine aa.data (.bool _) (aa.body Tryz.f92 _ mixed Tryz.func92 rfl rfl (by simp [Tryz.ntmps92]) ?_);unfold iC at ha;simp;refine aT.up mixed a.length (fun i fr h'=>fr 0= .str a∧fr 1= .str b∧fr 5= .int .i64 i∧i≤b.length∧Op.bytesLess a b=Op.bytesLess (a.drop i) (b.drop i)∧ ∃g,h'=h++g) 0 (by omega) ⟨by simp,by simp,by simp,by omega,by simp,[],by simp⟩ ?_;rintro i fr h' hi ⟨e0,e1,e5,hib,hf,g,rfl⟩;by_cases hlt:i<a.length∧i<b.length
 ·obtain⟨x,hx,hx'⟩:=aN hlt.1;obtain⟨y,hy,hy'⟩:=aN hlt.2;rw [MK hx hy] at hf;have ew:IntKind.i64.wrap ((i:Int)+1)=((i+1:Nat):Int):=by rw [aD (by omega) (by omega)];omega
  have hl1:=hlt.1;have hl2:=hlt.2;simp [e0,e1,e5,hl1,hl2,hx,hx',hy,hy',ew,WK];refine⟨by decide,fun q=>⟨by decide,?_⟩,fun q=>⟨i+1,by omega,by omega,by omega,by omega,?_⟩⟩
  ·rw [hf,beq_eq_false_iff_ne.2 q,Bool.false_and,Bool.or_false];exact decide_eq_decide.2 UInt8.lt_iff_toNat_lt.symm
  ·subst q;rw [hf];simp
 ·have he:a.length≤i∨b.length≤i:=by omega
  rw [OJ he hi hib] at hf;have hn:i<a.length→b.length≤i:=by omega
  simp [e0,e1,e5,hf];exact fun c1 c2=>absurd ⟨c1,c2⟩ hlt
theorem CX (a b:Int):aa Tryz.prog gl 127 [.int .i64 a,.int .i64 b] h fun x h'=>x= .int .i64 (iw a b)∧h'=h:=by
 refine aa.data (.int _ _) (aa.body Tryz.f127 _ mixed Tryz.func127 rfl rfl (by simp [Tryz.ntmps127]) ?_);unfold iw;by_cases h1:a<b
 ·simp [h1]
 ·by_cases h2:b<a <;> simp [h1,h2]
theorem Iq (a b:Bytes)(ha:iC a):aa Tryz.prog gl 128 [.str a,.str b] h fun x h'=>x= .int .i64 (jH a b)∧h'=h:=by
 refine aa.data (.int _ _) (aa.body Tryz.f128 _ mixed Tryz.func128 rfl rfl (by simp [Tryz.ntmps128]) ?_);unfold jH;by_cases h1:a=b
 ·simp [h1]
 ·simp [h1];refine ax.pure _ (fun _=>FJ a b ha) ?_;cases hb:Op.bytesLess a b <;> simp
theorem CW (a b:jk)(ha:iC a.dev):aa Tryz.prog gl 97 [.agg (bL a),.agg (bL b)] h fun x h'=>x= .int .i64 (dU a b)∧h'=h:=by
 refine aa.data (.int _ _) (aa.body Tryz.f97 _ mixed Tryz.func97 rfl rfl (by simp [Tryz.ntmps97]) ?_);unfold dU;by_cases h1:a.dev=b.dev
 ·simp [bL,h1];refine ax.pure _ (fun _=>CX a.seq b.seq) ?_;simp
 ·simp [bL,h1];refine ax.pure _ (fun _=>Iq a.dev b.dev ha) ?_;simp
theorem EO {a b:List jk} {i:Nat} {x y:jk} (hx:a[i]? =some x)(hy:b[i]? =some y):dz (a.drop i) (b.drop i)=if dU x y≠0 then dU x y else dz (a.drop (i+1)) (b.drop (i+1)):=by
 rw [bv hx,bv hy,dz]
theorem xM {a b:List jk} {i:Nat} (h:a.length≤i∨b.length≤i)(h1:i≤a.length)(h2:i≤b.length):dz (a.drop i) (b.drop i)=iw a.length b.length:=by
 have e1:iw a.length b.length=iw (a.drop i).length (b.drop i).length:=by
  have:=Ot (a.drop i).length (b.drop i).length i;rw [←this,List.length_drop,List.length_drop,show i+(a.length - i)=a.length by omega,show i+(b.length - i)=b.length by omega]
 rw [e1];rcases h with h | h
 ·rw [zH h];cases b.drop i <;> rfl
 ·rw [zH h];cases a.drop i <;> rfl
theorem oO {l:List Int} {i:Nat} {x:Int} (hx:l[i]? =some x):df (l.drop i)=if x≠0 then x else df (l.drop (i+1)):=by
 rw [bv hx,df]
theorem FB (l:List aA): ∀e∈l.map aj,e.length=8:=by
 intro e he;obtain⟨s,_,rfl⟩:=List.mem_map.1 he;rfl
end Go.Proofs.YtkpioblbeiaefaaGreat
end
section
namespace Go.Toll
open Go Go.Abs
theorem su:iq iw:=Bc
theorem oo:iq jH:=by
 refine Eq.mp (congrArg iq ?_) mE;funext a b
 rw [yY]
theorem kI:iq dU:=by
 refine Eq.mp (congrArg iq ?_) ((oo.comap jk.dev).lex (su.comap jk.seq));funext a b
 unfold dU;by_cases h:a.dev=b.dev
 ·rw [if_pos h,if_pos (by rw [h];exact Dr _)]
 ·rw [if_neg h,if_neg fun e=>h (Dt e)]
theorem qG (q:List jk):dz [] q=iw 0 q.length:=by cases q <;> simp [dz]
theorem lD (a:jk)(r:List jk):dz (a::r) []=1:=by
 simp only [dz,List.length_cons,List.length_nil,iw];rw [if_neg (by omega),if_pos (by omega)]
theorem vG: ∀x y:List jk,dz x y<0↔0<dz y x
 | [],[]=>by simp [dz,iw]
 | [],b::q=>by
  rw [lD,qG,List.length_cons,iw,if_pos (by omega)];simp
 | a::r,[]=>by
  rw [lD,qG,List.length_cons,iw,if_pos (by omega)];simp
 | a::r,b::q=>by
  have h1:=kI.anti a b;have h2:=kI.anti b a;have ih:=vG r q;rw [dz,dz];by_cases h:dU a b=0
  ·rw [if_neg (by simpa using h),if_neg (by simpa using kI.zero.1 h)];exact ih
  ·rw [if_pos h,if_pos fun e=>h (kI.zero.1 e)];exact h1
theorem tF: ∀x y z:List jk,dz x y≤0→dz y z≤0→dz x z≤0
 | [],_,z,_,_=>by
  rw [qG,iw];split
  ·omega
  ·rw [if_neg (by omega)];omega
 | a::r,[],_,h,_=>by rw [lD] at h;omega
 | a::r,b::q,[],_,h=>by rw [lD] at h;omega
 | a::r,b::q,c::s,h1,h2=>by
  rw [dz] at h1 h2 ⊢;have ih:=tF r q s;have o:=kI;have a1:dU a b≤0:=by by_cases e:dU a b=0;omega;rwa [if_pos e] at h1
  have a2:dU b c≤0:=by by_cases e:dU b c=0;omega;rwa [if_pos e] at h2
  have a3:=o.trans a b c a1 a2;by_cases h:dU a c=0
  ·rw [if_neg (by simpa using h)];have b1:=o.trans c a b (by rw [o.zero.1 h];omega) a1;have b2:=o.trans b c a a2 (by rw [o.zero.1 h];omega);have b3:=o.anti c b;have b4:=o.anti b a;have b5:=o.anti a b;have b6:=o.anti b c;have c1:dU a b=0:=by omega
   have c2:dU b c=0:=by omega
   rw [if_neg (by simpa using c1)] at h1;rw [if_neg (by simpa using c2)] at h2;exact ih h1 h2
  ·rw [if_pos h];omega
theorem Fz:iq dz:=⟨vG,tF⟩
theorem fM {α:Type} {c:α→α→Int} {r:α→α→List Int} (o:iq c)(o':iq fun x y=>df (r x y)):iq fun x y=>df (c x y::r x y):=by
 refine Eq.mp (congrArg iq ?_) (o.lex o');funext x y
 rw [df];by_cases h:c x y=0 <;> simp [h]
theorem M5:iq Gy:=by
 have h0:iq fun (x y:aA)=>df []:=uI;exact fM (su.comap aA.time) (fM (oo.comap aA.point) (fM (oo.comap aA.id) (fM (oo.comap aA.tag) (fM (oo.comap aA.plate)
  (fM (su.comap aA.cls) (fM (su.comap aA.score) (fM (Fz.comap aA.srcs) h0)))))))
section
variable {α : Type} {lt lt' : α → α → Bool}
end
end Go.Toll
end
section
namespace Go.Proofs.YtkpioblbeiaefaaGreat
open Go Go.Abs Go.Toll
variable {gl : aM} {h : ae}
theorem D6: ∀l:List Int,RI l=df l
 | []=>rfl
 | a::l=>by
  rw [RI,df,D6 l];by_cases e:a=0 <;> simp [e]
theorem RB (x:Int):aa Tryz.prog gl 103 [.int .i64 x] h fun v h'=>v= .bool false∧h'=h:=by
 refine aa.data (by simp) (aa.body Tryz.f103 _ mixed Tryz.func103 rfl rfl (by simp [Tryz.ntmps103]) ?_);simp
theorem RD (x:Bytes):aa Tryz.prog gl 104 [.str x] h fun v h'=>v= .bool false∧h'=h:=by
 refine aa.data (by simp) (aa.body Tryz.f104 _ mixed Tryz.func104 rfl rfl (by simp [Tryz.ntmps104]) ?_);simp
theorem Gz (x y:Int):aa Tryz.prog gl 71 [.int .i64 x,.int .i64 y] h fun v h'=>v= .int .i64 (iw x y)∧h'=h:=by
 refine aa.data (by simp) (aa.body Tryz.f71 _ mixed Tryz.func71 rfl rfl (by simp [Tryz.ntmps71]) ?_);unfold iw;simp;refine ax.pure _ (fun _=>RB x) ?_;simp;refine ax.pure _ (fun _=>RB y) ?_;simp;refine⟨fun a b=>by omega,fun a=>⟨fun b=> ?_,fun b=> ?_⟩⟩
 ·rw [if_neg (by omega),if_pos b]
 ·rw [if_neg (by omega),if_neg (by omega)]
theorem zW (x y:Bytes):aa Tryz.prog gl 72 [.str x,.str y] h fun v h'=>v= .int .i64 (jH x y)∧h'=h:=by
 refine aa.data (by simp) (aa.body Tryz.f72 _ mixed Tryz.func72 rfl rfl (by simp [Tryz.ntmps72]) ?_);have hs:Op.bytesLess x x=false:=by rw [←nR,decide_eq_false_iff_not,(vE x x).2 rfl];omega
 unfold jH;simp;refine ax.pure _ (fun _=>RD x) ?_;simp;refine ax.pure _ (fun _=>RD y) ?_;simp;by_cases e:x=y
 ·subst e;simp [hs]
 ·by_cases q:Op.bytesLess x y=true
  ·simp [e,q]
  ·simp [e,q]
theorem EP (b:Nat)(l:List Int)(hb:h[b]? =some (.cells 1 (l.map fun n=>[.int .i64 n])))(hl:l.length≤1000):aa Tryz.prog gl 70 [.own b 0 l.length] h fun v h'=>v= .int .i64 (df l)∧h'=h:=by
 rw [←D6];have:=Rd.own (n:=1) hb (fun e he=>by obtain⟨y,_,rfl⟩:=List.mem_map.1 he;rfl);rw [List.length_map] at this;exact SA _ l this hl
theorem Bn (a b:jk):aa Tryz.prog gl 134 [.agg (bL a),.agg (bL b)] h fun v h'=>v= .int .i64 (dU a b)∧h'=h:=by
 refine aa.data (by simp) (aa.body Tryz.f134 _ mixed Tryz.func134 rfl rfl (by simp [Tryz.ntmps134]) ?_);have hf:dU a b=df [jH a.dev b.dev,iw a.seq b.seq]:=by
  rw [qO];unfold dU;by_cases e:a.dev=b.dev
  ·rw [if_pos e,if_pos (by rw [e];exact Dr _)];split <;> simp_all
  ·rw [if_neg e,if_neg fun c=>e (Dt c)]
 rw [hf];simp [bL];refine⟨by decide,?_⟩;refine ax.pure _ (fun _=>zW _ _) ?_;simp;refine ax.pure _ (fun _=>Gz _ _) ?_;simp;refine ax.pure _ (fun _=>EP (h.length+2) [jH a.dev b.dev,iw a.seq b.seq] (by simp) (by simp)) ?_;simp
set_option maxHeartbeats 2000000 in
theorem wD (a b:List jk)(ha:a.length≤maxLen)(hb:b.length≤maxLen):aa Tryz.prog gl 133 [.ro (a.map bL),.ro (b.map bL),.fn (.func 134) [] []] h fun v h'=>v= .int .i64 (dz a b)∧h'=h:=by
 refine aa.data (by simp) (aa.body Tryz.f133 _ mixed Tryz.func133 rfl rfl (by simp [Tryz.ntmps133]) ?_);have hml:maxLen=9223372036854775807:=rfl;simp;refine aT.up mixed a.length (fun i fr H=>fr 0= .ro (a.map bL)∧fr 1= .ro (b.map bL)∧fr 2= .fn (.func 134) [] []∧fr 11= .ro (a.map bL)∧fr 12= .int .i64 a.length∧fr 13= .int .i64 i∧dz a b=dz (a.drop i) (b.drop i)∧i≤b.length∧ ∃g,H=h++g) 0 (by omega)
  ⟨by simp,by simp,by simp,by simp,by simp,by simp,by simp,by omega,[],by simp⟩ ?_
 rintro i fr H hi ⟨e0,e1,e2,e11,e12,e13,hf,hib,g,rfl⟩;rcases zN i a.length with hlt | hge
 ·obtain⟨x,hx,hx'⟩:=aN hlt;have ew:=aC (i:=i) (by omega);have hltI:(i:Int)<a.length:=by omega
  rcases zN i b.length with hlt2 | hge2
  ·obtain⟨y,hy,hy'⟩:=aN hlt2;have hltJ: ¬((b.length:Int)≤i):=by omega
   have hn2: ¬(b.length≤i):=by omega
   rw [EO hx hy] at hf;simp [e0,e1,e2,e11,e12,e13,hlt,hltI,hltJ,hn2,hlt2,hx,hx',hy,hy',bL];refine ax.pure _ (fun _=>by simpa [bL] using Bn x y) ?_;by_cases c:dU x y=0
   ·simp [e0,e1,e2,e11,e12,e13,c,ew];refine⟨i+1,by omega,by omega,by omega,by rw [hf];simp [c],by omega⟩
   ·simp [e0,e1,e2,e11,e12,e13,c];rw [hf];simp [c]
  ·have hgeJ:(b.length:Int)≤i:=by omega
   rw [xM (.inr hge2) hi hib] at hf;simp [e0,e1,e2,e11,e12,e13,hlt,hltI,hgeJ,hge2,hx,hx',bL];rw [hf,iw,if_neg (by omega),if_pos (by omega)]
 ·obtain rfl:i=a.length:=by omega
  rw [xM (.inl (Nat.le_refl _)) hi hib] at hf;simp [e0,e1,e2,e11,e12,e13];rw [hf];unfold iw;refine⟨fun c=>by rw [if_pos (by omega)],fun c=>by rw [if_neg (by omega),if_neg (by omega)]⟩
set_option maxHeartbeats 4000000 in
theorem yK (a b:aA)(ha:a.Ok)(hb:b.Ok):aa Tryz.prog gl 101 [.agg (aj a),.agg (aj b)] h fun x h'=>x= .int .i64 (Gy a b)∧h'=h:=by
 refine aa.data (.int _ _) (aa.body Tryz.f101 _ mixed Tryz.func101 rfl rfl (by simp [Tryz.ntmps101]) ?_);have e1:=ha.src;have e2:=hb.src;have hn:a.srcs.length≤maxLen:=by have:=ha.n;rw [e1] at this;simpa using this
 have hn2:b.srcs.length≤maxLen:=by have:=hb.n;rw [e2] at this;simpa using this
 obtain⟨c1,h1⟩: ∃c,c=iw a.time b.time:=⟨_,rfl⟩;obtain⟨c2,h2⟩: ∃c,c=jH a.point b.point:=⟨_,rfl⟩;obtain⟨c3,h3⟩: ∃c,c=jH a.id b.id:=⟨_,rfl⟩;obtain⟨c4,h4⟩: ∃c,c=jH a.tag b.tag:=⟨_,rfl⟩;obtain⟨c5,h5⟩: ∃c,c=jH a.plate b.plate:=⟨_,rfl⟩;obtain⟨c6,h6⟩: ∃c,c=iw a.cls b.cls:=⟨_,rfl⟩;obtain⟨c7,h7⟩: ∃c,c=iw a.score b.score:=⟨_,rfl⟩;obtain⟨c8,h8⟩: ∃c,c=dz a.srcs b.srcs:=⟨_,rfl⟩;have hcl:Gy a b=df [c1,c2,c3,c4,c5,c6,c7,c8]:=by rw [Gy,cmpL,h1,h2,h3,h4,h5,h6,h7,h8]
 rw [hcl];simp;refine⟨by decide,?_⟩;refine ax.pure (.int .i64 c1) (fun _=>by rw [h1];exact Gz a.time b.time) ?_;simp;refine ax.pure (.int .i64 c2) (fun _=>by rw [h2];exact zW a.point b.point) ?_;simp;refine ax.pure (.int .i64 c3) (fun _=>by rw [h3];exact zW a.id b.id) ?_;simp;refine ax.pure (.int .i64 c4) (fun _=>by rw [h4];exact zW a.tag b.tag) ?_;simp;refine ax.pure (.int .i64 c5) (fun _=>by rw [h5];exact zW a.plate b.plate) ?_;simp;refine ax.pure (.int .i64 c6) (fun _=>by rw [h6];exact Gz a.cls b.cls) ?_;simp;refine ax.pure (.int .i64 c7) (fun _=>by rw [h7];exact Gz a.score b.score) ?_;simp;refine ax.pure (.int .i64 c8) (fun _=>by rw [h8,e1,e2];exact wD a.srcs b.srcs hn hn2) ?_;simp;refine ax.pure _ (fun _=>EP (h.length+2) [c1,c2,c3,c4,c5,c6,c7,c8] (by simp) (by simp)) ?_;simp
theorem PV (l:List jk): ∀e∈l.map bL,∀y∈e,y.Data:=fun e he y hy=>by
 obtain⟨m,_,rfl⟩:=List.mem_map.1 he;simp [bL] at hy;rcases hy with rfl | rfl <;> simp
theorem yN (l:List jk)(hl:l.length≤1000000):aa Tryz.prog gl 131 [.ro (l.map bL)] h fun v h'=>v= .ro (l.map bL)∧h'=h:=by
 refine aa.fresh (aa.body Tryz.f131 _ mixed Tryz.func131 rfl rfl (by simp [Tryz.ntmps131]) ?_);simp [bL];refine⟨⟨by omega,qd.ownD (m:=2) (es:=l.map bL) (by simp [bL]) (by omega) (by simp) (by rw [List.drop_zero,zG (by simp)]) (PV l)⟩,?_⟩;rintro rfl;exact .nil
set_option maxHeartbeats 2000000 in
theorem Bj (p:aA)(hp:p.Ok)(hn:p.sources.length≤1000):aa Tryz.prog gl 99 [.agg (aj p)] h fun v h'=>v= .agg (aj p)∧h'=h:=by
 refine aa.fresh (aa.body Tryz.f99 _ mixed Tryz.func99 rfl rfl (by simp [Tryz.ntmps99]) ?_);have hc:=fun (H:ae)=>yN (gl:=gl) (h:=H) p.srcs (by have:=hn;rw [hp.src] at this;simp at this;omega);have hd:=hp.dat;have hs:=hp.src;rw [←hs] at hc;simp [aj];refine ax.pure _ (fun _=>hc _) ?_;simp;exact .agg' (.cons (.data _ (by simp)) (.cons (.data _ (by simp)) (.cons (.data _ (by simp)) (.cons (.data _ (by simp)) (.cons (.data _ (by simp)) (.cons (.data _ (by simp)) (.cons (.data _ (by simp)) (.cons (.data _ (.ro _ hd)) .nil))))))))
def Lb (e:List AV):aA:=⟨strOf (e.getD 0 .junk),strOf (e.getD 1 .junk),intOf (e.getD 2 .junk),strOf (e.getD 3 .junk),strOf (e.getD 4 .junk),intOf (e.getD 5 .junk),intOf (e.getD 6 .junk),match e.getD 7 .junk with | .ro l=>l | _=>[]⟩
def RL (x y:List AV):Int:=Gy (Lb x) (Lb y)
theorem Bi {l:List aA} (hl: ∀p∈l,p.Ok): ∀e∈l.map aj,∀y∈e,y.Data:=fun e he y hy=>by
 obtain⟨p,hp,rfl⟩:=List.mem_map.1 he;have hd:=(hl p hp).dat;simp only [aj,List.mem_cons,List.not_mem_nil,or_false] at hy;rcases hy with rfl | rfl | rfl | rfl | rfl | rfl | rfl | rfl
 all_goals first | exact .ro _ hd | simp
theorem sI (l:List aA):(fH l).length=l.length:=by rw [fH,bq]
theorem sJ {l:List aA} {p:aA}:p∈fH l↔p∈l:=by rw [fH,dL]
set_option maxHeartbeats 4000000 in
theorem wo (l:List aA) {x:AV} (hx:Rs 8 h x (l.map aj))(hok: ∀p∈l,p.Ok∧p.sources.length≤1000)(hn:l.length<20):aa Tryz.prog gl 66 [x] h fun v h'=>v= .ro ((fH l).map aj)∧h'=h:=by
 refine aa.fresh' (aa.body Tryz.f66 _ mixed Tryz.func66 rfl rfl (by simp [Tryz.ntmps66]) ?_);have fx:=hx.fix;have lx:=hx.len2;have lx2:=(hx.append [.cells 8 []]).len2;simp [fx,lx,lx2];refine⟨by omega,?_⟩;refine aT.up mixed l.length (fun i fr H=>fr 9=x∧fr 10= .int .i64 l.length∧fr 11= .int .i64 i∧(∃g,H=h++g)∧ ∃b,fr 3= .own b 0 i∧h.length≤b∧H[b]? =some (.cells 8 ((l.take i).map aj))) 0 (by omega)
  ⟨by simp,by simp,by simp,⟨_,rfl⟩,h.length,by simp,by omega,by simp⟩ ?_
 rintro i fr H hi ⟨e9,e10,e11,⟨g,rfl⟩,b,e3,hlb,hb⟩;have hb3:=at3 hb;rcases zN i l.length with hlt | hge
 ·obtain⟨p,hp,hp'⟩:=aN hlt;have ew:=aC (i:=i) (by omega);have hltI:(i:Int)<l.length:=by omega
  have ix:=(hx.append g).ix Tryz.prog (i:Int) (by omega) (y:=aj p) (by simp [hp]);obtain⟨q1,q2⟩:=hok p (zF hp);have hL:Ls 8 h.length (h++g) (.own b 0 i) ((l.take i).map aj):=⟨.inr ⟨b,by simp;omega,hlb,hb⟩,FB _⟩;simp [-ak,-av,-ai,-AV.solid,e3,e9,e10,e11,hlt,hltI,fx,lx,ix,aj];refine ax.pure _ (fun _=>by simpa [aj] using Bj p q1 q2) ?_;simp [-ak,-av,-ai,-AV.solid,e3,e9,e10,e11,aj];refine aO (lo:=h.length) (n:=8) (es:=(l.take i).map aj) (ys:=[aj p]) (by simpa [aj] using hL.more _) (by simp) (by simp [bF,aj]) (by simp;omega) ?_;intro s1 H1 hs1 hg1 hn1;have hs1f:=hs1.rs.fix;have hB1:=hg1.base h (by omega) ⟨_,rfl⟩;have hlen:((l.take i).map aj++[aj p]).length=i+1:=by simp;omega
  have htk:(l.take (i+1)).map aj=(l.take i).map aj++[aj p]:=by rw [zM,hp];simp
  obtain⟨b',rfl,hlb',hb'⟩: ∃b',s1= .own b' 0 (i+1)∧h.length≤b'∧H1[b']? =some (.cells 8 ((l.take (i+1)).map aj)):=by
   rcases hs1.1 with⟨_,e⟩ | ⟨k,e,h1,h2⟩
   ·simp at e
   ·exact⟨k,by rw [e,hlen],h1,by rw [htk];exact h2⟩
  simp [-ak,-av,-ai,-AV.solid,-List.map_take,e3,e9,e10,e11,ew];exact⟨i+1,by omega,by omega,by omega,hB1,b',⟨rfl,rfl⟩,hlb',by rw [←List.map_take];exact hb'⟩
 ·obtain rfl:i=l.length:=by omega
  rw [List.take_length] at hb;have hbl:=aK hb;have hset:(h++g).set b (.cells 8 (l.map aj))=h++g:=by obtain⟨_,hg⟩:=zA.1 hb;rw [←hg];exact List.set_getElem_self ..
  have hs:=uY (gl:=gl) (h:=h++g) b (l.map aj) hbl (FB _) (by simp;omega) 101 [] RL (by
   intro a ha c hc o;obtain⟨a,hma,rfl⟩:=List.mem_map.1 ha;obtain⟨c,hmc,rfl⟩:=List.mem_map.1 hc;exact yK a c (hok a hma).1 (hok c hmc).1)
  have hsm:aP (fun x y=>decide (RL x y<0)) (l.map aj)=(fH l).map aj:=Ei (lt:=fun a b=>decide (Gy a b<0)) (fun _ _=>rfl) l;rw [hset,hsm,List.length_map] at hs;simp [-ak,-av,-ai,-AV.solid,e3,e9,e10,e11];refine ax.any hs ?_;rintro v h' ⟨rfl,rfl⟩;simp [-ak,-av,-ai,-AV.solid,e3,e9,e10,e11];rw [←List.set_append];refine⟨dI ⟨g,rfl⟩ hlb _,?_⟩;have hl1:Ls 8 h.length ((h++g).set b (.cells 8 ((fH l).map aj))) (.own b 0 l.length) ((fH l).map aj):=⟨.inr ⟨b,by simp [sI],hlb,zI hbl⟩,FB _⟩;exact hl1.frz (Nat.le_refl _) (Bi fun p hp=>(hok p (sJ.1 hp)).1)
end Go.Proofs.YtkpioblbeiaefaaGreat
end
section
namespace Go.Toll
open Go Go.Abs
def jW (l:List aA):Nat→List (Bytes×Int)
 | 0=>[]
 | i+1=>match l[i]? with
  | some p=>pF (jW l i) p.id p.cls
  | none=>jW l i
def vD (m:List (Bytes×Int))(id:Bytes):Int:=(gH m id).getD 0
def Nu (v:bg)(l:List aA):List Nat:=qW (gL v l) l.length
def mi (v:bg)(l:List aA):List aA:=yF (Nu v l) l l.length
def fo (v:bg)(l:List aA):List mP:=mF (Nu v l) l l.length
def kE (t:aZ)(l:List aA):List bn:=(iD (aI t).net (mi (aI t).net (bB t l))).1
def bR (t:aZ)(l:List aA)(veh:Bytes):dh:=NQ t veh (vD (jW l l.length)) (cK t l (fo (aI t).net (bB t l))) (kE t l)
theorem MP {l:List aA} {i:Nat} {p:aA} (h:l[i]? =some p):jW l (i+1)=pF (jW l i) p.id p.cls:=by rw [jW,h]
theorem Au {t:aZ} {l:List aA} {i:Nat} {p:aA} (h:l[i]? =some p):iK t (l.take (i+1))=if kindOf t p.point=0 then iK t (l.take i)++[⟨p.id,3⟩] else iK t (l.take i):=by
 rw [zM,h];by_cases c:kindOf t p.point=0 <;> simp [iK,c]
theorem xY {t:aZ} {l:List aA} {i:Nat} {p:aA} (h:l[i]? =some p):bB t (l.take (i+1))=if kindOf t p.point=0 then bB t (l.take i) else bB t (l.take i)++[p]:=by
 rw [zM,h];by_cases c:kindOf t p.point=0 <;> simp [bB,c]
theorem w9 (t:aZ)(l:List aA):(iK t l).length≤l.length:=by rw [iK,List.length_map];exact List.length_filter_le _ _
theorem mq (t:aZ)(l:List aA):(bB t l).length≤l.length:=List.length_filter_le _ _
theorem AL {t:aZ} {l:List aA} {p:aA} (h:p∈bB t l):p∈l:=(List.mem_filter.1 h).1
theorem rY {v:bg} {l:List aA} {p:aA} (h:p∈mi v l):p∈l:=Lg h
theorem wm {v:bg} {l:List aA} (h:fV v l=0) {p:aA} (hp:p∈l):aG v.pts p.point=true∧0≤p.time∧p.time<68719476736:=by
 obtain⟨i,hi,rfl⟩:=List.mem_iff_getElem.1 hp;have h0:gZ v none l=0:=by
  unfold fV at h;split at h
  ·cases h
  ·exact h
 have h1:=D9 h0 i (by omega);rw [pz (zB hi)] at h1;split at h1
 ·cases h1
 split at h1
 ·cases h1
 rename_i a b;refine⟨by simpa using a,?_⟩;unfold bE at b;simp at b;exact b
structure StopB (v:bg)(l:List aA)(x:bn):Prop where
 time:0≤x.time∧x.time<68719476736
 point:aG v.pts x.point=true
 pass:x.pass=[]∨ ∃p∈l,x.pass=p.id
theorem Og {v:bg} (ok:aU v) {a p:aA} (ha:0≤a.time)(hp:p.time<68719476736) {l:List aA}: ∀x∈ma v a p,StopB v l x:=by
 intro x hx;have h1:=(Md ok a p).2 x hx;have h2:=Dm a p x hx;refine⟨by omega,?_,.inl h2⟩;unfold ma at hx;split at hx
 ·cases hx
 ·rename_i h;have h0:(eG v a.point p.point a.time p.time).2=0:=by simpa using h
  obtain⟨b1,_⟩:=zf ok h0;generalize (eG v a.point p.point a.time p.time).1=m at*;obtain⟨a',l',s,hp',hall,_⟩:=qD b1;rw [mY,List.mem_map] at hx;obtain⟨i,hi,rfl⟩:=hx;have hi':=List.mem_range.1 hi;refine hall _ ?_;rw [←hp'];refine List.mem_cons_of_mem _ (List.mem_append_left _ ?_);show m.getD i []∈m;rw [List.getD_eq_getElem?_getD,zB hi'];exact List.getElem_mem hi'
theorem Nw {v:bg} {l:List aA} (h:fV v l=0) {p:aA} (hp:p∈l):StopB v l (mJ p):=
 ⟨(wm h hp).2,(wm h hp).1,.inr ⟨p,hp,rfl⟩⟩
theorem xA {v:bg} (ok:aU v) {l:List aA} (h:fV v l=0): ∀i:Nat,∀x∈dS v l i,StopB v l x
 | 0,x,hx=>by simp [dS] at hx
 | i+1,x,hx=>by
  rw [dS] at hx;split at hx
  ·rename_i p hp;rcases List.mem_append.1 hx with hx | hx
   ·exact xA ok h i x hx
   ·rcases List.mem_append.1 hx with hx | hx
    ·cases i with
     | zero=>cases hx
     | succ j=>
      simp only at hx;split at hx
      ·rename_i a ha;exact Og ok (wm h (zF ha)).2.1 (wm h (zF hp)).2.2 x hx
      ·cases hx
    ·obtain rfl:=List.mem_singleton.1 hx;exact Nw h (zF hp)
  ·exact xA ok h i x hx
theorem uS {v:bg} (ok:aU v) {l:List aA}:(∀x∈(iD v l).1,StopB v l x)∧(iD v l).1.length≤17*l.length:=by
 unfold iD;split
 ·simp
 ·rename_i h;exact⟨xA ok (by simpa using h) l.length,uR ok l.length⟩
structure RY (n:Nat)(S:List bn)(w:dh):Prop where
 trips:w.trips.length≤n
 out:w.out.length+w.opn.length≤n+200
 opn:w.opn.length≤n
 all: ∀x∈w.opn,x∈S
 before:w.before.length≤1000000
 last:w.last.length≤1000000
theorem Rc {n:Nat} {S:List bn} {w:dh} (h:RY n S w) {t:aZ} {veh:Bytes} {cls:Bytes→Int} {s:bn} (hs:s∈S):RY (n+1) S (qw t veh cls w s):=by
 obtain⟨h1,h2,h3,h4,h5,h6⟩:=h;have e:=gU 11 w.opn;have e1:=gU 10 [s];have e2:=gU 12 [s];unfold qw;split
 ·exact⟨by simp;omega,by simp;omega,by simp;omega,h4,h5,h6⟩
 ·exact⟨by simp;omega,by simp;omega,by simp,by simp [hs],h6,h6⟩
 ·exact⟨by simp;omega,by simp;omega,by simp,by simp,h5,h6⟩
 ·refine⟨by simp;omega,by simp;omega,by simp;omega,fun x hx=> ?_,h5,h6⟩;rcases List.mem_append.1 hx with hx | hx
  ·exact h4 x hx
  ·obtain rfl:=List.mem_singleton.1 hx;exact hs
 ·exact⟨by simp;omega,by simp at*;omega,by simp,by simp,h5,h6⟩
 ·exact⟨by simp;omega,by simp at*;omega,by simp;omega,h4,h5,h6⟩
theorem Qa {n:Nat} {S:List bn} {w:dh} (h:RY n S w) {t:aZ} {veh:Bytes} {cls:Bytes→Int} {s:bn} (hs:s∈S)(hp:s.pass.length≤1000000):RY (n+1) S (dE t veh cls w s):=by
 have:=Rc h (t:=t) (veh:=veh) (cls:=cls) hs;unfold dE;split
 ·exact this
 ·exact⟨this.trips,this.out,this.opn,this.all,this.before,hp⟩
theorem I5 {S:List bn} {w:dh} {t:aZ} {veh:Bytes} {cls:Bytes→Int} (h:RY 0 S w)(hp: ∀s∈S,s.pass.length≤1000000): ∀i:Nat,i≤S.length→RY i S ((S.take i).foldl (dE t veh cls) w)
 | 0,_=>by simpa using h
 | i+1,hi=>by
  obtain⟨s,hs,_⟩:=aN (l:=S) (i:=i) (by omega);have ih:=I5 h hp i (by omega) (t:=t) (veh:=veh) (cls:=cls);rw [zM,hs,List.foldl_append];exact Qa ih (zF hs) (hp s (zF hs))
theorem Jz {S:List bn} {w:dh} {t:aZ} {veh:Bytes} {cls:Bytes→Int} {i:Nat} {s:bn} (hs:S[i]? =some s):(S.take (i+1)).foldl (dE t veh cls) w=dE t veh cls ((S.take i).foldl (dE t veh cls) w) s:=by
 rw [zM,hs,List.foldl_append];rfl
theorem Ls.lendG {n lo:Nat} {h:ae} {x:AV} {es:List (List AV)} (r:Ls n lo h x es): ∃ks,eH ks h x (.ro es)∧Grow lo h x (killL h ks)∧(killL h ks).length=h.length:=by
 obtain⟨ks,hks,hf⟩:=r.lend;refine⟨ks,hf,⟨fun b o hb hne=> ?_,fun h₀ hl₀ hg=> ?_,by rw [ji];exact Nat.le_refl _⟩,ji _ _⟩
 ·rw [jT ks h b fun hb=> ?_]
  ·exact hb
  ·obtain⟨_,off,len,e⟩:=hks b hb;exact hne off len e
 ·obtain⟨g,rfl⟩:=hg;exact jS ks h₀ g fun b hb=>by have:=(hks b hb).1;omega
theorem u6.grow {t:aZ} {veh:Bytes} {mb:Nat} {m:List (Bytes×Int)} {b lo lo' n:Nat} {H H':ae} {tr ou op:AV} {w:dh} (h:u6 t veh mb m b lo H tr ou op w) {y:AV} {es:List (List AV)} (hy:Ls n lo' H y es)(hn:n≠10∧n≠5∧n≠2)(g:Grow lo' H y H'):
  u6 t veh mb m b lo H' tr ou op w:=
 ⟨g.keep b _ h.blk (qX hy h.blk (Ne.symm hn.1)),g.keep mb _ h.mp (jV hy h.mp),gp h.trips hy (Ne.symm hn.2.1) g,gp h.out hy (Ne.symm hn.2.2) g,h.low,h.lom⟩
theorem KT {t:aZ} {q:Pt} (h:q∈(aI t).net.pts):q∈t.net.pts:=by
 unfold aI at h;split at h
 ·exact h
 ·cases h
theorem Fh {n lo:Nat} {H:ae} {x:AV} {es:List (List AV)} {k:Nat} (hx:Ls n lo H x es)(hk: ∀off len,x≠ .own k off len)(o:bU):Ls n lo (H.set k o) x es:=by
 obtain⟨h1,h2⟩:=hx;refine⟨?_,h2⟩;rcases h1 with h1 | ⟨b',e,hl,hb'⟩
 ·exact .inl h1
 ·refine .inr ⟨b',e,hl,?_⟩;have:k≠b':=by
   rintro rfl;exact hk _ _ e
  rw [zJ this];exact hb'
theorem u6.putM {t:aZ} {veh:Bytes} {mb:Nat} {m:List (Bytes×Int)} {b lo:Nat} {H:ae} {tr ou op:AV} {w:dh} (h:u6 t veh mb m b lo H tr ou op w)(m':List (Bytes×Int)):u6 t veh mb m' b lo (H.set mb (.map (sM encZ' m'))) tr ou op w:=
 ⟨by rw [zJ (Ne.symm (nz h.blk h.mp))];exact h.blk,zI (aK h.mp),Fh h.trips (jV h.trips h.mp) _,Fh h.out (jV h.out h.mp) _,h.low,h.lom⟩
def RJ (a b:Bytes):Bytes:=if a=[] then b else a
def LK (p:aA):Bytes:=RJ p.tag p.plate
def yR (l:List aA):Bytes:=match l with
 | []=>[]
 | a::r=>LK (((a::r).find? fun p=> !decide (p.tag=[])).getD a)
def NC (l:List aA)(s:Bytes):List Bytes:=(l.filter fun q=>decide (q.plate=s) && !decide (q.tag=[])).map (·.tag)
def yQ:List Bytes→Option Bytes
 | []=>none
 | t::r=>some (if r.all (fun u=>decide (u=t))=true then t else [])
def BZ (l:List aA)(s:Bytes):Option Bytes:=yQ (NC l s)
def iE (l:List aA):Nat→List (Bytes×Bytes)
 | 0=>[]
 | i+1=>match l[i]? with
  | some p=>if p.tag=[]∨p.plate=[] then iE l i else pF (iE l i) p.plate (if (gH (iE l i) p.plate).all (fun t=>decide (t=p.tag))=true then p.tag else [])
  | none=>iE l i
theorem sK {l:List aA} {i:Nat} {p:aA} (h:l[i]? =some p):iE l (i+1)=if p.tag=[]∨p.plate=[] then iE l i else pF (iE l i) p.plate (if (gH (iE l i) p.plate).all (fun t=>decide (t=p.tag))=true then p.tag else []):=by rw [iE,h]
theorem NA (L:List Bytes) {u:Bytes} (hu:u≠[]):yQ (L++[u])=some (if (yQ L).all (fun t=>decide (t=u))=true then u else []):=by
 cases L with
 | nil=>simp [yQ]
 | cons t r=>
  show yQ (t::(r++[u]))=_;by_cases h:r.all (fun u=>decide (u=t))=true
  ·have e1:yQ (t::r)=some t:=by rw [yQ,if_pos h]
   rw [e1,yQ,List.all_append,h];by_cases c:t=u
   ·subst c;simp
   ·have c': ¬u=t:=fun e=>c e.symm;simp [c,c']
  ·have h2:r.all (fun u=>decide (u=t))=false:=by simpa using h
   have e1:yQ (t::r)=some []:=by rw [yQ,if_neg h]
   have c: ¬([]:Bytes)=u:=fun e=>hu e.symm;rw [e1,yQ,List.all_append,h2];simp [c]
theorem ND {l:List aA} {i:Nat} {p:aA} (h:l[i]? =some p)(s:Bytes):NC (l.take (i+1)) s=if p.plate=s∧p.tag≠[] then NC (l.take i) s++[p.tag] else NC (l.take i) s:=by
 rw [zM,h];by_cases c:p.plate=s <;> by_cases d:p.tag=[] <;> simp [NC,c,d]
theorem IL {l:List aA} {s:Bytes} (hs:s≠[]): ∀i:Nat,gH (iE l i) s=BZ (l.take i) s
 | 0=>by simp [iE,gH,BZ,NC,yQ]
 | i+1=>by
  have ih:=IL (l:=l) hs i
  cases hg:l[i]? with
  | none=>rw [iE,hg,zM,hg];simpa using ih
  | some p=>
   rw [sK hg,BZ,ND hg];by_cases c:p.tag=[]∨p.plate=[]
   ·rw [if_pos c,ih,if_neg,BZ];rintro⟨h1,h2⟩;rcases c with c | c
    ·exact h2 c
    ·exact hs (by rw [←h1,c])
   ·rw [if_neg c,DF];have c1:p.tag≠[]:=fun e=>c (.inl e);by_cases d:s=p.plate
    ·subst d;rw [if_pos (⟨rfl,c1⟩:p.plate=p.plate∧p.tag≠[]),NA _ c1,if_pos rfl,ih,BZ]
    ·rw [if_neg d,if_neg (fun e=>d e.1.symm),ih,BZ]
def bP (l:List aA)(p:aA):Bytes:=if p.tag=[]∧p.plate≠[] then RJ ((BZ l p.plate).getD []) p.plate else p.tag
def I8 (l:List aA)(v:Bytes)(i:Nat):List aA:=(l.take i).filter fun p=>decide (bP l p=v)
def vW (l:List aA)(v:Bytes):List aA:=if v=[] then [] else fH (I8 l v l.length)
theorem HZ {l:List aA} {v:Bytes} {i:Nat} {p:aA} (h:l[i]? =some p):I8 l v (i+1)=if bP l p=v then I8 l v i++[p] else I8 l v i:=by
 rw [I8,zM,h];by_cases c:bP l p=v <;> simp [I8,c]
theorem Fu (l:List aA)(v:Bytes)(i:Nat):(I8 l v i).length≤i:=Nat.le_trans (List.length_filter_le _ _) (List.length_take_le _ _)
theorem Fv {l:List aA} {v:Bytes} {i:Nat} {p:aA} (h:p∈I8 l v i):p∈l∧bP l p=v:=⟨List.mem_of_mem_take (List.mem_filter.1 h).1,by simpa using (List.mem_filter.1 h).2⟩
theorem Fw {l:List aA} {v:Bytes} {p:aA} (h:p∈vW l v):p∈l∧bP l p=v:=by
 unfold vW at h;split at h
 ·cases h
 ·exact Fv ((dL _).1 h)
theorem vX (l:List aA)(v:Bytes):(vW l v).length≤l.length:=by
 unfold vW;split
 ·simp
 ·rw [fH,bq];exact Fu _ _ _
def jG (l:List aA):Nat→List Bytes
 | 0=>[]
 | i+1=>match l[i]? with
  | some p=>if bP l p=[]∨bP l p∈jG l i then jG l i else jG l i++[bP l p]
  | none=>jG l i
theorem NM {l:List aA} {i:Nat} {p:aA} (h:l[i]? =some p):jG l (i+1)=if bP l p=[]∨bP l p∈jG l i then jG l i else jG l i++[bP l p]:=by rw [jG,h]
def gQ (l:List aA):List Bytes:=jD (jG l l.length)
theorem LJ (l:List aA): ∀i:Nat,(jG l i).Nodup
 | 0=>by simp [jG]
 | i+1=>by
  have ih:=LJ l i;rw [jG];split
  ·split
   ·exact ih
   ·rename_i h;rw [List.nodup_append];refine⟨ih,by simp,fun a ha b hb e=> ?_⟩;obtain rfl:=List.mem_singleton.1 hb;exact h (.inr (by rw [←e];exact ha))
  ·exact ih
theorem wJ (l:List aA): ∀i:Nat,(jG l i).length≤i
 | 0=>by simp [jG]
 | i+1=>by
  have ih:=wJ l i;rw [jG];split
  ·split
   ·omega
   ·simp;omega
  ·omega
theorem IZ (l:List aA)(v:Bytes): ∀i:Nat,v∈jG l i↔v≠[]∧ ∃p∈l.take i,bP l p=v
 | 0=>by simp [jG]
 | i+1=>by
  have ih:=IZ l v i;rw [jG,zM]
  cases hg:l[i]? with
  | none=>simpa using ih
  | some p=>
   have e:(∃q∈l.take i++(some p).toList,bP l q=v)↔(∃q∈l.take i,bP l q=v)∨bP l p=v:=by
    constructor
    ·rintro⟨q,hq,e⟩;rcases List.mem_append.1 hq with h | h
     ·exact .inl ⟨q,h,e⟩
     ·simp at h;subst h;exact .inr e
    ·rintro (⟨q,hq,e⟩ | e)
     ·exact⟨q,List.mem_append_left _ hq,e⟩
     ·exact⟨p,List.mem_append_right _ (by simp),e⟩
   rw [e];simp only;split
   ·rename_i h;rw [ih];constructor
    ·rintro⟨h1,h2⟩;exact⟨h1,.inl h2⟩
    ·rintro⟨h1,h2 | h2⟩
     ·exact⟨h1,h2⟩
     ·rcases h with h | h
      ·exact absurd (h2.symm.trans h) h1
      ·rw [h2] at h;exact ih.1 h
   ·rename_i h;rw [List.mem_append,ih,List.mem_singleton];constructor
    ·rintro (⟨h1,h2⟩ | h2)
     ·exact⟨h1,.inl h2⟩
     ·exact⟨fun c=>h (.inl (by rw [←h2,c])),.inr h2.symm⟩
    ·rintro⟨h1,h2 | h2⟩
     ·exact .inl ⟨h1,h2⟩
     ·exact .inr h2.symm
theorem Ew (l:List aA)(v:Bytes):v∈gQ l↔v≠[]∧ ∃p∈l,bP l p=v:=by
 rw [gQ,Em,IZ,List.take_length]
theorem P8 (l:List aA):(gQ l).Nodup:=yn (LJ l _)
theorem Ev (l:List aA):(gQ l).length≤l.length:=by rw [gQ,El];exact wJ _ _
def oJ (t:aZ)(l:List aA):dh:=bR t (bT l) (yR (bT l))
def Jc (t:aZ)(l:List aA):List dh:=(gQ (bT l)).map fun v=>bR t (vW (bT l) v) v
def allT (t:aZ)(l:List aA):List bQ:=(Jc t l).flatMap (·.trips)
theorem vL {t:aZ} {veh:Bytes} {cls:Bytes→Int}: ∀(l:List bn) (w:dh),(l.foldl (dE t veh cls) w).trips.length≤w.trips.length+l.length∧(l.foldl (dE t veh cls) w).out.length+(l.foldl (dE t veh cls) w).opn.length≤w.out.length+w.opn.length+l.length
 | [],w=>by simp
 | s::l,w=>by
  have ih:=vL (t:=t) (veh:=veh) (cls:=cls) l (dE t veh cls w s);have h:(dE t veh cls w s).trips.length≤w.trips.length+1∧(dE t veh cls w s).out.length+(dE t veh cls w s).opn.length≤w.out.length+w.opn.length+1:=by
   have e:=gU 11 w.opn;have e1:=gU 10 [s];have e2:=gU 12 [s];have key:(qw t veh cls w s).trips.length≤w.trips.length+1∧(qw t veh cls w s).out.length+(qw t veh cls w s).opn.length≤w.out.length+w.opn.length+1:=by
    unfold qw;split <;> simp <;> simp at e1 e2 <;> omega
   unfold dE;split <;> exact key
  rw [List.foldl_cons,List.length_cons];omega
theorem wQ (t:aZ)(l:List aA)(v:Bytes):(bR t l v).trips.length≤17*l.length∧(bR t l v).out.length≤19*l.length:=by
 have h:=vL (t:=t) (veh:=v) (cls:=vD (jW l l.length)) (kE t l) (cK t l (fo (aI t).net (bB t l)));have h1:=(uS (RH t) (l:=mi (aI t).net (bB t l))).2;have h2:(mi (aI t).net (bB t l)).length≤l.length:=Nat.le_trans (vP _ _ _) (mq t l);have h3:(fo (aI t).net (bB t l)).length≤l.length:=Nat.le_trans (Bd _ _ _) (mq t l);have h4:=w9 t l;have e:=gU 11 ((kE t l).foldl (dE t v (vD (jW l l.length))) (cK t l (fo (aI t).net (bB t l)))).opn;have h5:(kE t l).length≤17*l.length:=Nat.le_trans h1 (by omega);have h6:(cK t l (fo (aI t).net (bB t l))).out.length≤2*l.length:=by simp [cK];omega
 have h7:(cK t l (fo (aI t).net (bB t l))).trips.length=0:=rfl;have h8:(cK t l (fo (aI t).net (bB t l))).opn.length=0:=rfl;have e1:(bR t l v).trips=((kE t l).foldl (dE t v (vD (jW l l.length))) (cK t l (fo (aI t).net (bB t l)))).trips:=rfl;have e2:(bR t l v).out=((kE t l).foldl (dE t v (vD (jW l l.length))) (cK t l (fo (aI t).net (bB t l)))).out++gG 11 ((kE t l).foldl (dE t v (vD (jW l l.length))) (cK t l (fo (aI t).net (bB t l)))).opn:=rfl;rw [e1,e2,List.length_append];constructor <;> omega
theorem Ap {α β:Type} {f:α→List β} {k:Nat}: ∀ {V:List α},(∀v∈V,(f v).length≤k)→(V.flatMap f).length≤V.length*k
 | [],_=>by simp
 | v::V,h=>by
  have ih:=Ap (V:=V) fun x hx=>h x (by simp [hx]);have hv:=h v (by simp);rw [List.flatMap_cons,List.length_append,List.length_cons,Nat.add_mul];omega
def qy (t:aZ)(l:List aA):List mP:=(Jc t l).flatMap (·.out)
theorem PY {l:List aA}:match l.findIdx? (fun p=> !decide (p.tag=[])) with
  | some i=> ∃p,l[i]? =some p∧l.find? (fun p=> !decide (p.tag=[]))=some p
  | none=>l.find? (fun p=> !decide (p.tag=[]))=none:=by
 induction l with
 | nil=>rfl
 | cons a r ih=>
  rw [List.findIdx?_cons,List.find?_cons];by_cases c:a.tag=[]
  ·simp only [c,decide_true,Bool.not_true,Bool.false_eq_true,if_false]
   cases h:r.findIdx? (fun p=> !decide (p.tag=[])) with
   | none=>rw [h] at ih;simpa using ih
   | some i=>rw [h] at ih;simpa using ih
  ·simp [c]
end Go.Toll
end
section
namespace Go.Proofs.YtkpioblbeiaefaaGreat
open Go Go.Abs Go.Toll
variable {gl : aM} {h : ae}
theorem Vf (l:List mP): ∀e∈l.map bf,∀y∈e,y.Data:=fun e he y hy=>by
 obtain⟨m,_,rfl⟩:=List.mem_map.1 he;simp [bf] at hy;rcases hy with rfl | rfl <;> simp
end Go.Proofs.YtkpioblbeiaefaaGreat
end
section
namespace Go.Toll
open Go Go.Abs
def PM (l:List aA)(I:List Nat):List aA:=I.filterMap fun j=>l[j]?
theorem PN {v:bg} {l:List aA}: ∀ {I:List Nat} {last:Option Nat},KW (gL v l) l.length last I→EN v (PM l I)=true
 | [],_,_=>rfl
 | [i],_,h=>by
  obtain⟨a,ha,_⟩:=aN h.1;simp [PM,ha,EN]
 | i::j::r,_,h=>by
  obtain⟨h1,_,h3⟩:=h;have ih:=PN h3;obtain⟨h4,h5,_⟩:=h3;obtain⟨a,ha,_⟩:=aN h1;obtain⟨b,hb,_⟩:=aN h4;have hg:=(h5 i rfl).2;rw [Ru ha hb] at hg;simp only [PM,List.filterMap_cons,ha,hb] at ih ⊢;rw [EN,hg,ih];rfl
end Go.Toll
end
