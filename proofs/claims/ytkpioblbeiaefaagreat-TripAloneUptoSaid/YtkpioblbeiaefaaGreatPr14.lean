/- Part 14 of the lemmas below the statements of this seat: PassA, TollWalkB, TollAll, R21A, TollChainL. -/
import Derived.Test.YtkpioblbeiaefaaGreatPr13
set_option linter.unusedSectionVars false
set_option linter.unusedVariables false
set_option linter.unusedSimpArgs false
set_option linter.unnecessarySimpa false
set_option maxRecDepth 100000
section
namespace Go.Proofs.YtkpioblbeiaefaaGreat
open Go Go.Abs Go.Toll
variable {gl : aM} {h : af}
theorem Fz: ∀l:List Int,T9 l=cz l
 | []=>rfl
 | a::l=>by
  rw [T9,cz,Fz l];by_cases e:a=0 <;> simp [e]
theorem TV (x:Int):aa Tryz.prog gl 103 [.int .i64 x] h fun v h'=>v= .bool false∧h'=h:=by
 refine aa.data (by simp) (aa.body Tryz.f103 _ mixed Tryz.func103 rfl rfl (by simp [Tryz.ntmps103]) ?_);simp
theorem TW (x:Bytes):aa Tryz.prog gl 104 [.str x] h fun v h'=>v= .bool false∧h'=h:=by
 refine aa.data (by simp) (aa.body Tryz.f104 _ mixed Tryz.func104 rfl rfl (by simp [Tryz.ntmps104]) ?_);simp
theorem IV (x y:Int):aa Tryz.prog gl 71 [.int .i64 x,.int .i64 y] h fun v h'=>v= .int .i64 (ig x y)∧h'=h:=by
 refine aa.data (by simp) (aa.body Tryz.f71 _ mixed Tryz.func71 rfl rfl (by simp [Tryz.ntmps71]) ?_);unfold ig;simp;refine ax.pure _ (fun _=>TV x) ?_;simp;refine ax.pure _ (fun _=>TV y) ?_;simp;refine⟨fun a b=>by omega,fun a=>⟨fun b=> ?_,fun b=> ?_⟩⟩
 ·rw [if_neg (by omega),if_pos b]
 ·rw [if_neg (by omega),if_neg (by omega)]
theorem Bj (x y:Bytes):aa Tryz.prog gl 72 [.str x,.str y] h fun v h'=>v= .int .i64 (iZ x y)∧h'=h:=by
 refine aa.data (by simp) (aa.body Tryz.f72 _ mixed Tryz.func72 rfl rfl (by simp [Tryz.ntmps72]) ?_);have hs:Op.bytesLess x x=false:=by rw [←oK,decide_eq_false_iff_not,(wQ x x).2 rfl];omega
 unfold iZ;simp;refine ax.pure _ (fun _=>TW x) ?_;simp;refine ax.pure _ (fun _=>TW y) ?_;simp;by_cases e:x=y
 ·subst e;simp [hs]
 ·by_cases q:Op.bytesLess x y=true
  ·simp [e,q]
  ·simp [e,q]
theorem Gy (b:Nat)(l:List Int)(hb:h[b]? =some (.cells 1 (l.map fun n=>[.int .i64 n])))(hl:l.length≤1000):aa Tryz.prog gl 70 [.own b 0 l.length] h fun v h'=>v= .int .i64 (cz l)∧h'=h:=by
 rw [←Fz];have:=Rd.own (n:=1) hb (fun e he=>by obtain⟨y,_,rfl⟩:=List.mem_map.1 he;rfl);rw [List.length_map] at this;exact UN _ l this hl
theorem CL (a b:jq):aa Tryz.prog gl 134 [.agg (bN a),.agg (bN b)] h fun v h'=>v= .int .i64 (eu a b)∧h'=h:=by
 refine aa.data (by simp) (aa.body Tryz.f134 _ mixed Tryz.func134 rfl rfl (by simp [Tryz.ntmps134]) ?_);have hf:eu a b=cz [iZ a.dev b.dev,ig a.seq b.seq]:=by
  rw [sG];unfold eu;by_cases e:a.dev=b.dev
  ·rw [if_pos e,if_pos (by rw [e];exact ER _)];split <;> simp_all
  ·rw [if_neg e,if_neg fun c=>e (ES c)]
 rw [hf];simp [bN];refine⟨by decide,?_⟩;refine ax.pure _ (fun _=>Bj _ _) ?_;simp;refine ax.pure _ (fun _=>IV _ _) ?_;simp;refine ax.pure _ (fun _=>Gy (h.length+2) [iZ a.dev b.dev,ig a.seq b.seq] (by simp) (by simp)) ?_;simp
set_option maxHeartbeats 2000000 in
theorem xH (a b:List jq)(ha:a.length≤maxLen)(hb:b.length≤maxLen):aa Tryz.prog gl 133 [.ro (a.map bN),.ro (b.map bN),.fn (.func 134) [] []] h fun v h'=>v= .int .i64 (cO a b)∧h'=h:=by
 refine aa.data (by simp) (aa.body Tryz.f133 _ mixed Tryz.func133 rfl rfl (by simp [Tryz.ntmps133]) ?_);have hml:maxLen=9223372036854775807:=rfl;simp;refine aT.up mixed a.length (fun i fr H=>fr 0= .ro (a.map bN)∧fr 1= .ro (b.map bN)∧fr 2= .fn (.func 134) [] []∧fr 11= .ro (a.map bN)∧fr 12= .int .i64 a.length∧fr 13= .int .i64 i∧cO a b=cO (a.drop i) (b.drop i)∧i≤b.length∧ ∃g,H=h++g) 0 (by omega)
  ⟨by simp,by simp,by simp,by simp,by simp,by simp,by simp,by omega,[],by simp⟩ ?_
 rintro i fr H hi ⟨e0,e1,e2,e11,e12,e13,hf,hib,g,rfl⟩;rcases zN i a.length with hlt | hge
 ·obtain⟨x,hx,hx'⟩:=aJ hlt;have ew:=aB (i:=i) (by omega);have hltI:(i:Int)<a.length:=by omega
  rcases zN i b.length with hlt2 | hge2
  ·obtain⟨y,hy,hy'⟩:=aJ hlt2;have hltJ: ¬((b.length:Int)≤i):=by omega
   have hn2: ¬(b.length≤i):=by omega
   rw [wT hx hy] at hf;simp [e0,e1,e2,e11,e12,e13,hlt,hltI,hltJ,hn2,hlt2,hx,hx',hy,hy',bN];refine ax.pure _ (fun _=>by simpa [bN] using CL x y) ?_;by_cases c:eu x y=0
   ·simp [e0,e1,e2,e11,e12,e13,c,ew];refine⟨i+1,by omega,by omega,by omega,by rw [hf];simp [c],by omega⟩
   ·simp [e0,e1,e2,e11,e12,e13,c];rw [hf];simp [c]
  ·have hgeJ:(b.length:Int)≤i:=by omega
   rw [rY (.inr hge2) hi hib] at hf;simp [e0,e1,e2,e11,e12,e13,hlt,hltI,hgeJ,hge2,hx,hx',bN];rw [hf,ig,if_neg (by omega),if_pos (by omega)]
 ·obtain rfl:i=a.length:=by omega
  rw [rY (.inl (Nat.le_refl _)) hi hib] at hf;simp [e0,e1,e2,e11,e12,e13];rw [hf];unfold ig;refine⟨fun c=>by rw [if_pos (by omega)],fun c=>by rw [if_neg (by omega),if_neg (by omega)]⟩
set_option maxHeartbeats 4000000 in
theorem Ag (a b:ay)(ha:a.Ok)(hb:b.Ok):aa Tryz.prog gl 101 [.agg (ae a),.agg (ae b)] h fun x h'=>x= .int .i64 (rX a b)∧h'=h:=by
 refine aa.data (.int _ _) (aa.body Tryz.f101 _ mixed Tryz.func101 rfl rfl (by simp [Tryz.ntmps101]) ?_);have e1:=ha.src;have e2:=hb.src;have hn:a.srcs.length≤maxLen:=by have:=ha.n;rw [e1] at this;simpa using this
 have hn2:b.srcs.length≤maxLen:=by have:=hb.n;rw [e2] at this;simpa using this
 obtain⟨c1,h1⟩: ∃c,c=ig a.time b.time:=⟨_,rfl⟩;obtain⟨c2,h2⟩: ∃c,c=iZ a.point b.point:=⟨_,rfl⟩;obtain⟨c3,h3⟩: ∃c,c=iZ a.id b.id:=⟨_,rfl⟩;obtain⟨c4,h4⟩: ∃c,c=iZ a.tag b.tag:=⟨_,rfl⟩;obtain⟨c5,h5⟩: ∃c,c=iZ a.plate b.plate:=⟨_,rfl⟩;obtain⟨c6,h6⟩: ∃c,c=ig a.cls b.cls:=⟨_,rfl⟩;obtain⟨c7,h7⟩: ∃c,c=ig a.score b.score:=⟨_,rfl⟩;obtain⟨c8,h8⟩: ∃c,c=cO a.srcs b.srcs:=⟨_,rfl⟩;have hcl:rX a b=cz [c1,c2,c3,c4,c5,c6,c7,c8]:=by rw [rX,cmpL,h1,h2,h3,h4,h5,h6,h7,h8]
 rw [hcl];simp;refine⟨by decide,?_⟩;refine ax.pure (.int .i64 c1) (fun _=>by rw [h1];exact IV a.time b.time) ?_;simp;refine ax.pure (.int .i64 c2) (fun _=>by rw [h2];exact Bj a.point b.point) ?_;simp;refine ax.pure (.int .i64 c3) (fun _=>by rw [h3];exact Bj a.id b.id) ?_;simp;refine ax.pure (.int .i64 c4) (fun _=>by rw [h4];exact Bj a.tag b.tag) ?_;simp;refine ax.pure (.int .i64 c5) (fun _=>by rw [h5];exact Bj a.plate b.plate) ?_;simp;refine ax.pure (.int .i64 c6) (fun _=>by rw [h6];exact IV a.cls b.cls) ?_;simp;refine ax.pure (.int .i64 c7) (fun _=>by rw [h7];exact IV a.score b.score) ?_;simp;refine ax.pure (.int .i64 c8) (fun _=>by rw [h8,e1,e2];exact xH a.srcs b.srcs hn hn2) ?_;simp;refine ax.pure _ (fun _=>Gy (h.length+2) [c1,c2,c3,c4,c5,c6,c7,c8] (by simp) (by simp)) ?_;simp
theorem Ry (l:List jq): ∀e∈l.map bN,∀y∈e,y.Data:=fun e he y hy=>by
 obtain⟨m,_,rfl⟩:=List.mem_map.1 he;simp [bN] at hy;rcases hy with rfl | rfl <;> simp
theorem Aj (l:List jq)(hl:l.length≤1000000):aa Tryz.prog gl 131 [.ro (l.map bN)] h fun v h'=>v= .ro (l.map bN)∧h'=h:=by
 refine aa.fresh (aa.body Tryz.f131 _ mixed Tryz.func131 rfl rfl (by simp [Tryz.ntmps131]) ?_);simp [bN];refine⟨⟨by omega,pW.ownD (m:=2) (es:=l.map bN) (by simp [bN]) (by omega) (by simp) (by rw [List.drop_zero,zG (by simp)]) (Ry l)⟩,?_⟩;rintro rfl;exact .nil
set_option maxHeartbeats 2000000 in
theorem CK (p:ay)(hp:p.Ok)(hn:p.sources.length≤1000):aa Tryz.prog gl 99 [.agg (ae p)] h fun v h'=>v= .agg (ae p)∧h'=h:=by
 refine aa.fresh (aa.body Tryz.f99 _ mixed Tryz.func99 rfl rfl (by simp [Tryz.ntmps99]) ?_);have hc:=fun (H:af)=>Aj (gl:=gl) (h:=H) p.srcs (by have:=hn;rw [hp.src] at this;simp at this;omega);have hd:=hp.dat;have hs:=hp.src;rw [←hs] at hc;simp [ae];refine ax.pure _ (fun _=>hc _) ?_;simp;exact .agg' (.cons (.data _ (by simp)) (.cons (.data _ (by simp)) (.cons (.data _ (by simp)) (.cons (.data _ (by simp)) (.cons (.data _ (by simp)) (.cons (.data _ (by simp)) (.cons (.data _ (by simp)) (.cons (.data _ (.ro _ hd)) .nil))))))))
def MW (e:List AV):ay:=⟨strOf (e.getD 0 .junk),strOf (e.getD 1 .junk),intOf (e.getD 2 .junk),strOf (e.getD 3 .junk),strOf (e.getD 4 .junk),intOf (e.getD 5 .junk),intOf (e.getD 6 .junk),match e.getD 7 .junk with | .ro l=>l | _=>[]⟩
def Ua (x y:List AV):Int:=rX (MW x) (MW y)
theorem pI {l:List ay} (hl: ∀p∈l,p.Ok): ∀e∈l.map ae,∀y∈e,y.Data:=fun e he y hy=>by
 obtain⟨p,hp,rfl⟩:=List.mem_map.1 he;have hd:=(hl p hp).dat;simp only [ae,List.mem_cons,List.not_mem_nil,or_false] at hy;rcases hy with rfl | rfl | rfl | rfl | rfl | rfl | rfl | rfl
 all_goals first | exact .ro _ hd | simp
theorem mZ (l:List ay):(dC l).length=l.length:=by rw [dC,bz]
theorem lh {l:List ay} {p:ay}:p∈dC l↔p∈l:=by rw [dC,dB]
set_option maxHeartbeats 4000000 in
theorem xA (l:List ay) {x:AV} (hx:Rs 8 h x (l.map ae))(hok: ∀p∈l,p.Ok∧p.sources.length≤1000)(hn:l.length<20):aa Tryz.prog gl 66 [x] h fun v h'=>v= .ro ((dC l).map ae)∧h'=h:=by
 refine aa.fresh' (aa.body Tryz.f66 _ mixed Tryz.func66 rfl rfl (by simp [Tryz.ntmps66]) ?_);have fx:=hx.fix;have lx:=hx.len2;have lx2:=(hx.append [.cells 8 []]).len2;simp [fx,lx,lx2];refine⟨by omega,?_⟩;refine aT.up mixed l.length (fun i fr H=>fr 9=x∧fr 10= .int .i64 l.length∧fr 11= .int .i64 i∧(∃g,H=h++g)∧ ∃b,fr 3= .own b 0 i∧h.length≤b∧H[b]? =some (.cells 8 ((l.take i).map ae))) 0 (by omega)
  ⟨by simp,by simp,by simp,⟨_,rfl⟩,h.length,by simp,by omega,by simp⟩ ?_
 rintro i fr H hi ⟨e9,e10,e11,⟨g,rfl⟩,b,e3,hlb,hb⟩;have hb3:=at3 hb;rcases zN i l.length with hlt | hge
 ·obtain⟨p,hp,hp'⟩:=aJ hlt;have ew:=aB (i:=i) (by omega);have hltI:(i:Int)<l.length:=by omega
  have ix:=(hx.append g).ix Tryz.prog (i:Int) (by omega) (y:=ae p) (by simp [hp]);obtain⟨q1,q2⟩:=hok p (zF hp);have hL:Ls 8 h.length (h++g) (.own b 0 i) ((l.take i).map ae):=⟨.inr ⟨b,by simp;omega,hlb,hb⟩,yD _⟩;simp [-aj,-au,-ah,-AV.solid,e3,e9,e10,e11,hlt,hltI,fx,lx,ix,ae];refine ax.pure _ (fun _=>by simpa [ae] using CK p q1 q2) ?_;simp [-aj,-au,-ah,-AV.solid,e3,e9,e10,e11,ae];refine aN (lo:=h.length) (n:=8) (es:=(l.take i).map ae) (ys:=[ae p]) (by simpa [ae] using hL.more _) (by simp) (by simp [bE,ae]) (by simp;omega) ?_;intro s1 H1 hs1 hg1 hn1;have hs1f:=hs1.rs.fix;have hB1:=hg1.base h (by omega) ⟨_,rfl⟩;have hlen:((l.take i).map ae++[ae p]).length=i+1:=by simp;omega
  have htk:(l.take (i+1)).map ae=(l.take i).map ae++[ae p]:=by rw [zM,hp];simp
  obtain⟨b',rfl,hlb',hb'⟩: ∃b',s1= .own b' 0 (i+1)∧h.length≤b'∧H1[b']? =some (.cells 8 ((l.take (i+1)).map ae)):=by
   rcases hs1.1 with⟨_,e⟩ | ⟨k,e,h1,h2⟩
   ·simp at e
   ·exact⟨k,by rw [e,hlen],h1,by rw [htk];exact h2⟩
  simp [-aj,-au,-ah,-AV.solid,-List.map_take,e3,e9,e10,e11,ew];exact⟨i+1,by omega,by omega,by omega,hB1,b',⟨rfl,rfl⟩,hlb',by rw [←List.map_take];exact hb'⟩
 ·obtain rfl:i=l.length:=by omega
  rw [List.take_length] at hb;have hbl:=aK hb;have hset:(h++g).set b (.cells 8 (l.map ae))=h++g:=by obtain⟨_,hg⟩:=zA.1 hb;rw [←hg];exact List.set_getElem_self ..
  have hs:=wH (gl:=gl) (h:=h++g) b (l.map ae) hbl (yD _) (by simp;omega) 101 [] Ua (by
   intro a ha c hc o;obtain⟨a,hma,rfl⟩:=List.mem_map.1 ha;obtain⟨c,hmc,rfl⟩:=List.mem_map.1 hc;exact Ag a c (hok a hma).1 (hok c hmc).1)
  have hsm:aQ (fun x y=>decide (Ua x y<0)) (l.map ae)=(dC l).map ae:=yM (lt:=fun a b=>decide (rX a b<0)) (fun _ _=>rfl) l;rw [hset,hsm,List.length_map] at hs;simp [-aj,-au,-ah,-AV.solid,e3,e9,e10,e11];refine ax.any hs ?_;rintro v h' ⟨rfl,rfl⟩;simp [-aj,-au,-ah,-AV.solid,e3,e9,e10,e11];rw [←List.set_append];refine⟨dA ⟨g,rfl⟩ hlb _,?_⟩;have hl1:Ls 8 h.length ((h++g).set b (.cells 8 ((dC l).map ae))) (.own b 0 l.length) ((dC l).map ae):=⟨.inr ⟨b,by simp [mZ],hlb,zI hbl⟩,yD _⟩;exact hl1.frz (Nat.le_refl _) (pI fun p hp=>(hok p (lh.1 hp)).1)
end Go.Proofs.YtkpioblbeiaefaaGreat
end
section
namespace Go.Toll
open Go Go.Abs
def jL (l:List ay):Nat→List (Bytes×Int)
 | 0=>[]
 | i+1=>match l[i]? with
  | some p=>qE (jL l i) p.id p.cls
  | none=>jL l i
def rW (m:List (Bytes×Int))(id:Bytes):Int:=(ik m id).getD 0
def Ib (v:bn)(l:List ay):List Nat:=sQ (gL v l) l.length
def jV (v:bn)(l:List ay):List ay:=yn (Ib v l) l l.length
def bT (v:bn)(l:List ay):List kD:=lH (Ib v l) l l.length
def gK (t:aY)(l:List ay):List aX:=(iE (aH t).net (jV (aH t).net (bC t l))).1
def bI (t:aY)(l:List ay)(veh:Bytes):bS:=Ky t veh (rW (jL l l.length)) (bP t l (bT (aH t).net (bC t l))) (gK t l)
theorem OB {l:List ay} {i:Nat} {p:ay} (h:l[i]? =some p):jL l (i+1)=qE (jL l i) p.id p.cls:=by rw [jL,h]
theorem BO {t:aY} {l:List ay} {i:Nat} {p:ay} (h:l[i]? =some p):jc t (l.take (i+1))=if kindOf t p.point=0 then jc t (l.take i)++[⟨p.id,3⟩] else jc t (l.take i):=by
 rw [zM,h];by_cases c:kindOf t p.point=0 <;> simp [jc,c]
theorem zn {t:aY} {l:List ay} {i:Nat} {p:ay} (h:l[i]? =some p):bC t (l.take (i+1))=if kindOf t p.point=0 then bC t (l.take i) else bC t (l.take i)++[p]:=by
 rw [zM,h];by_cases c:kindOf t p.point=0 <;> simp [bC,c]
theorem yl (t:aY)(l:List ay):(jc t l).length≤l.length:=by rw [jc,List.length_map];exact List.length_filter_le _ _
theorem nC (t:aY)(l:List ay):(bC t l).length≤l.length:=List.length_filter_le _ _
theorem Cc {t:aY} {l:List ay} {p:ay} (h:p∈bC t l):p∈l:=(List.mem_filter.1 h).1
theorem ui {v:bn} {l:List ay} {p:ay} (h:p∈jV v l):p∈l:=M4 h
theorem xz {v:bn} {l:List ay} (h:ed v l=0) {p:ay} (hp:p∈l):aF v.pts p.point=true∧0≤p.time∧p.time<68719476736:=by
 obtain⟨i,hi,rfl⟩:=List.mem_iff_getElem.1 hp;have h0:gZ v none l=0:=by
  unfold ed at h;split at h
  ·cases h
  ·exact h
 have h1:=yE h0 i (by omega);rw [mO (zB hi)] at h1;split at h1
 ·cases h1
 split at h1
 ·cases h1
 rename_i a b;refine⟨by simpa using a,?_⟩;unfold bK at b;simp at b;exact b
structure StopB (v:bn)(l:List ay)(x:aX):Prop where
 time:0≤x.time∧x.time<68719476736
 point:aF v.pts x.point=true
 pass:x.pass=[]∨ ∃p∈l,x.pass=p.id
theorem PY {v:bn} (ok:aV v) {a p:ay} (ha:0≤a.time)(hp:p.time<68719476736) {l:List ay}: ∀x∈l8 v a p,StopB v l x:=by
 intro x hx;have h1:=(EM ok a p).2 x hx;have h2:=EL a p x hx;refine⟨by omega,?_,.inl h2⟩;unfold l8 at hx;split at hx
 ·cases hx
 ·rename_i h;have h0:(fu v a.point p.point a.time p.time).2=0:=by simpa using h
  obtain⟨b1,_⟩:=AB ok h0;generalize (fu v a.point p.point a.time p.time).1=m at*;obtain⟨a',l',s,hp',hall,_⟩:=rQ b1;rw [nR,List.mem_map] at hx;obtain⟨i,hi,rfl⟩:=hx;have hi':=List.mem_range.1 hi;refine hall _ ?_;rw [←hp'];refine List.mem_cons_of_mem _ (List.mem_append_left _ ?_);show m.getD i []∈m;rw [List.getD_eq_getElem?_getD,zB hi'];exact List.getElem_mem hi'
theorem Po {v:bn} {l:List ay} (h:ed v l=0) {p:ay} (hp:p∈l):StopB v l (ll p):=
 ⟨(xz h hp).2,(xz h hp).1,.inr ⟨p,hp,rfl⟩⟩
theorem uw {v:bn} (ok:aV v) {l:List ay} (h:ed v l=0): ∀i:Nat,∀x∈dH v l i,StopB v l x
 | 0,x,hx=>by simp [dH] at hx
 | i+1,x,hx=>by
  rw [dH] at hx;split at hx
  ·rename_i p hp;rcases List.mem_append.1 hx with hx | hx
   ·exact uw ok h i x hx
   ·rcases List.mem_append.1 hx with hx | hx
    ·cases i with
     | zero=>cases hx
     | succ j=>
      simp only at hx;split at hx
      ·rename_i a ha;exact PY ok (xz h (zF ha)).2.1 (xz h (zF hp)).2.2 x hx
      ·cases hx
    ·obtain rfl:=List.mem_singleton.1 hx;exact Po h (zF hp)
  ·exact uw ok h i x hx
theorem wz {v:bn} (ok:aV v) {l:List ay}:(∀x∈(iE v l).1,StopB v l x)∧(iE v l).1.length≤17*l.length:=by
 unfold iE;split
 ·simp
 ·rename_i h;exact⟨uw ok (by simpa using h) l.length,wy ok l.length⟩
structure Ul (n:Nat)(S:List aX)(w:bS):Prop where
 trips:w.trips.length≤n
 out:w.out.length+w.opn.length≤n+200
 opn:w.opn.length≤n
 all: ∀x∈w.opn,x∈S
 before:w.before.length≤1000000
 last:w.last.length≤1000000
theorem Ty {n:Nat} {S:List aX} {w:bS} (h:Ul n S w) {t:aY} {veh:Bytes} {cls:Bytes→Int} {s:aX} (hs:s∈S):Ul (n+1) S (lC t veh cls w s):=by
 obtain⟨h1,h2,h3,h4,h5,h6⟩:=h;have e:=iH 11 w.opn;have e1:=iH 10 [s];have e2:=iH 12 [s];unfold lC;split
 ·exact⟨by simp;omega,by simp;omega,by simp;omega,h4,h5,h6⟩
 ·exact⟨by simp;omega,by simp;omega,by simp,by simp [hs],h6,h6⟩
 ·exact⟨by simp;omega,by simp;omega,by simp,by simp,h5,h6⟩
 ·refine⟨by simp;omega,by simp;omega,by simp;omega,fun x hx=> ?_,h5,h6⟩;rcases List.mem_append.1 hx with hx | hx
  ·exact h4 x hx
  ·obtain rfl:=List.mem_singleton.1 hx;exact hs
 ·exact⟨by simp;omega,by simp at*;omega,by simp,by simp,h5,h6⟩
 ·exact⟨by simp;omega,by simp at*;omega,by simp;omega,h4,h5,h6⟩
theorem RS {n:Nat} {S:List aX} {w:bS} (h:Ul n S w) {t:aY} {veh:Bytes} {cls:Bytes→Int} {s:aX} (hs:s∈S)(hp:s.pass.length≤1000000):Ul (n+1) S (bV t veh cls w s):=by
 have:=Ty h (t:=t) (veh:=veh) (cls:=cls) hs;unfold bV;split
 ·exact this
 ·exact⟨this.trips,this.out,this.opn,this.all,this.before,hp⟩
theorem Kz {S:List aX} {w:bS} {t:aY} {veh:Bytes} {cls:Bytes→Int} (h:Ul 0 S w)(hp: ∀s∈S,s.pass.length≤1000000): ∀i:Nat,i≤S.length→Ul i S ((S.take i).foldl (bV t veh cls) w)
 | 0,_=>by simpa using h
 | i+1,hi=>by
  obtain⟨s,hs,_⟩:=aJ (l:=S) (i:=i) (by omega);have ih:=Kz h hp i (by omega) (t:=t) (veh:=veh) (cls:=cls);rw [zM,hs,List.foldl_append];exact RS ih (zF hs) (hp s (zF hs))
theorem K9 {S:List aX} {w:bS} {t:aY} {veh:Bytes} {cls:Bytes→Int} {i:Nat} {s:aX} (hs:S[i]? =some s):(S.take (i+1)).foldl (bV t veh cls) w=bV t veh cls ((S.take i).foldl (bV t veh cls) w) s:=by
 rw [zM,hs,List.foldl_append];rfl
theorem Ls.lendG {n lo:Nat} {h:af} {x:AV} {es:List (List AV)} (r:Ls n lo h x es): ∃ks,fA ks h x (.ro es)∧Grow lo h x (killL h ks)∧(killL h ks).length=h.length:=by
 obtain⟨ks,hks,hf⟩:=r.lend;refine⟨ks,hf,⟨fun b o hb hne=> ?_,fun h₀ hl₀ hg=> ?_,by rw [jJ];exact Nat.le_refl _⟩,jJ _ _⟩
 ·rw [kR ks h b fun hb=> ?_]
  ·exact hb
  ·obtain⟨_,off,len,e⟩:=hks b hb;exact hne off len e
 ·obtain⟨g,rfl⟩:=hg;exact kQ ks h₀ g fun b hb=>by have:=(hks b hb).1;omega
theorem wJ.grow {t:aY} {veh:Bytes} {mb:Nat} {m:List (Bytes×Int)} {b lo lo' n:Nat} {H H':af} {tr ou op:AV} {w:bS} (h:wJ t veh mb m b lo H tr ou op w) {y:AV} {es:List (List AV)} (hy:Ls n lo' H y es)(hn:n≠10∧n≠5∧n≠2)(g:Grow lo' H y H'):
  wJ t veh mb m b lo H' tr ou op w:=
 ⟨g.keep b _ h.blk (sS hy h.blk (Ne.symm hn.1)),g.keep mb _ h.mp (kT hy h.mp),gQ h.trips hy (Ne.symm hn.2.1) g,gQ h.out hy (Ne.symm hn.2.2) g,h.low,h.lom⟩
theorem MH {t:aY} {q:Pt} (h:q∈(aH t).net.pts):q∈t.net.pts:=by
 unfold aH at h;split at h
 ·exact h
 ·cases h
theorem G6 {n lo:Nat} {H:af} {x:AV} {es:List (List AV)} {k:Nat} (hx:Ls n lo H x es)(hk: ∀off len,x≠ .own k off len)(o:bY):Ls n lo (H.set k o) x es:=by
 obtain⟨h1,h2⟩:=hx;refine⟨?_,h2⟩;rcases h1 with h1 | ⟨b',e,hl,hb'⟩
 ·exact .inl h1
 ·refine .inr ⟨b',e,hl,?_⟩;have:k≠b':=by
   rintro rfl;exact hk _ _ e
  rw [zJ this];exact hb'
theorem wJ.putM {t:aY} {veh:Bytes} {mb:Nat} {m:List (Bytes×Int)} {b lo:Nat} {H:af} {tr ou op:AV} {w:bS} (h:wJ t veh mb m b lo H tr ou op w)(m':List (Bytes×Int)):wJ t veh mb m' b lo (H.set mb (.map (sM encZ' m'))) tr ou op w:=
 ⟨by rw [zJ (Ne.symm (nX h.blk h.mp))];exact h.blk,zI (aK h.mp),G6 h.trips (kT h.trips h.mp) _,G6 h.out (kT h.out h.mp) _,h.low,h.lom⟩
def OQ (a b:Bytes):Bytes:=if a=[] then b else a
def Nu (p:ay):Bytes:=OQ p.tag p.plate
def xO (l:List ay):Bytes:=match l with
 | []=>[]
 | a::r=>Nu (((a::r).find? fun p=> !decide (p.tag=[])).getD a)
def wB (l:List ay)(s:Bytes):List Bytes:=(l.filter fun q=>decide (q.plate=s) && !decide (q.tag=[])).map (·.tag)
def oz:List Bytes→Option Bytes
 | []=>none
 | t::r=>some (if r.all (fun u=>decide (u=t))=true then t else [])
def qW (l:List ay)(s:Bytes):Option Bytes:=oz (wB l s)
def iU (l:List ay):Nat→List (Bytes×Bytes)
 | 0=>[]
 | i+1=>match l[i]? with
  | some p=>if p.tag=[]∨p.plate=[] then iU l i else qE (iU l i) p.plate (if (ik (iU l i) p.plate).all (fun t=>decide (t=p.tag))=true then p.tag else [])
  | none=>iU l i
theorem uz {l:List ay} {i:Nat} {p:ay} (h:l[i]? =some p):iU l (i+1)=if p.tag=[]∨p.plate=[] then iU l i else qE (iU l i) p.plate (if (ik (iU l i) p.plate).all (fun t=>decide (t=p.tag))=true then p.tag else []):=by rw [iU,h]
theorem FT (L:List Bytes) {u:Bytes} (hu:u≠[]):oz (L++[u])=some (if (oz L).all (fun t=>decide (t=u))=true then u else []):=by
 cases L with
 | nil=>simp [oz]
 | cons t r=>
  show oz (t::(r++[u]))=_;by_cases h:r.all (fun u=>decide (u=t))=true
  ·have e1:oz (t::r)=some t:=by rw [oz,if_pos h]
   rw [e1,oz,List.all_append,h];by_cases c:t=u
   ·subst c;simp
   ·have c': ¬u=t:=fun e=>c e.symm;simp [c,c']
  ·have h2:r.all (fun u=>decide (u=t))=false:=by simpa using h
   have e1:oz (t::r)=some []:=by rw [oz,if_neg h]
   have c: ¬([]:Bytes)=u:=fun e=>hu e.symm;rw [e1,oz,List.all_append,h2];simp [c]
theorem FU {l:List ay} {i:Nat} {p:ay} (h:l[i]? =some p)(s:Bytes):wB (l.take (i+1)) s=if p.plate=s∧p.tag≠[] then wB (l.take i) s++[p.tag] else wB (l.take i) s:=by
 rw [zM,h];by_cases c:p.plate=s <;> by_cases d:p.tag=[] <;> simp [wB,c,d]
theorem Kc {l:List ay} {s:Bytes} (hs:s≠[]): ∀i:Nat,ik (iU l i) s=qW (l.take i) s
 | 0=>by simp [iU,ik,qW,wB,oz]
 | i+1=>by
  have ih:=Kc (l:=l) hs i
  cases hg:l[i]? with
  | none=>rw [iU,hg,zM,hg];simpa using ih
  | some p=>
   rw [uz hg,qW,FU hg];by_cases c:p.tag=[]∨p.plate=[]
   ·rw [if_pos c,ih,if_neg,qW];rintro⟨h1,h2⟩;rcases c with c | c
    ·exact h2 c
    ·exact hs (by rw [←h1,c])
   ·rw [if_neg c,E8];have c1:p.tag≠[]:=fun e=>c (.inl e);by_cases d:s=p.plate
    ·subst d;rw [if_pos (⟨rfl,c1⟩:p.plate=p.plate∧p.tag≠[]),FT _ c1,if_pos rfl,ih,qW]
    ·rw [if_neg d,if_neg (fun e=>d e.1.symm),ih,qW]
theorem RD: ∀ {A:List Bytes} (B:List Bytes),oz A=some []→(∀t∈A,t≠[])→oz (A++B)=some []
 | [],_,h,_=>by cases h
 | t::r,B,h,hn=>by
  have ht:=hn t (by simp);simp only [oz,Option.some.injEq] at h;have h2:r.all (fun u=>decide (u=t))=false:=by
   cases e:r.all (fun u=>decide (u=t)) with
   | false=>rfl
   | true=>rw [e,if_pos rfl] at h;exact absurd h ht
  rw [List.cons_append,oz,List.all_append,h2];rfl
theorem Tq {l:List ay} {s t:Bytes} (h:t∈wB l s):t≠[]:=by
 obtain⟨p,hp,rfl⟩:=List.mem_map.1 h;have:=(List.mem_filter.1 hp).2;simp at this;exact this.2
theorem RG (a b:List ay)(s:Bytes):wB (a++b) s=wB a s++wB b s:=by simp [wB]
def bG (l:List ay)(p:ay):Bytes:=if p.tag=[]∧p.plate≠[] then OQ ((qW l p.plate).getD []) p.plate else p.tag
def Hd (l:List ay)(v:Bytes)(i:Nat):List ay:=(l.take i).filter fun p=>decide (bG l p=v)
def jM (l:List ay)(v:Bytes):List ay:=if v=[] then [] else dC (Hd l v l.length)
theorem Cu {l:List ay} {v:Bytes} {i:Nat} {p:ay} (h:l[i]? =some p):Hd l v (i+1)=if bG l p=v then Hd l v i++[p] else Hd l v i:=by
 rw [Hd,zM,h];by_cases c:bG l p=v <;> simp [Hd,c]
theorem AC (l:List ay)(v:Bytes)(i:Nat):(Hd l v i).length≤i:=Nat.le_trans (List.length_filter_le _ _) (List.length_take_le _ _)
theorem AJ {l:List ay} {v:Bytes} {i:Nat} {p:ay} (h:p∈Hd l v i):p∈l∧bG l p=v:=⟨List.mem_of_mem_take (List.mem_filter.1 h).1,by simpa using (List.mem_filter.1 h).2⟩
theorem jZ {l:List ay} {v:Bytes} {p:ay} (h:p∈jM l v):p∈l∧bG l p=v:=by
 unfold jM at h;split at h
 ·cases h
 ·exact AJ ((dB _).1 h)
theorem lv (l:List ay)(v:Bytes):(jM l v).length≤l.length:=by
 unfold jM;split
 ·simp
 ·rw [dC,bz];exact AC _ _ _
def jh (l:List ay):Nat→List Bytes
 | 0=>[]
 | i+1=>match l[i]? with
  | some p=>if bG l p=[]∨bG l p∈jh l i then jh l i else jh l i++[bG l p]
  | none=>jh l i
theorem PG {l:List ay} {i:Nat} {p:ay} (h:l[i]? =some p):jh l (i+1)=if bG l p=[]∨bG l p∈jh l i then jh l i else jh l i++[bG l p]:=by rw [jh,h]
def dI (l:List ay):List Bytes:=ku (jh l l.length)
theorem Nt (l:List ay): ∀i:Nat,(jh l i).Nodup
 | 0=>by simp [jh]
 | i+1=>by
  have ih:=Nt l i;rw [jh];split
  ·split
   ·exact ih
   ·rename_i h;rw [List.nodup_append];refine⟨ih,by simp,fun a ha b hb e=> ?_⟩;obtain rfl:=List.mem_singleton.1 hb;exact h (.inr (by rw [←e];exact ha))
  ·exact ih
theorem xP (l:List ay): ∀i:Nat,(jh l i).length≤i
 | 0=>by simp [jh]
 | i+1=>by
  have ih:=xP l i;rw [jh];split
  ·split
   ·omega
   ·simp;omega
  ·omega
theorem Kq (l:List ay)(v:Bytes): ∀i:Nat,v∈jh l i↔v≠[]∧ ∃p∈l.take i,bG l p=v
 | 0=>by simp [jh]
 | i+1=>by
  have ih:=Kq l v i;rw [jh,zM]
  cases hg:l[i]? with
  | none=>simpa using ih
  | some p=>
   have e:(∃q∈l.take i++(some p).toList,bG l q=v)↔(∃q∈l.take i,bG l q=v)∨bG l p=v:=by
    constructor
    ·rintro⟨q,hq,e⟩;rcases List.mem_append.1 hq with h | h
     ·exact .inl ⟨q,h,e⟩
     ·simp at h;subst h;exact .inr e
    ·rintro (⟨q,hq,e⟩ | e)
     ·exact⟨q,List.mem_append_left _ hq,e⟩
     ·exact⟨p,List.mem_append_right _ (by simp),e⟩
   rw [e];simp only;split
   ·rename_i h;rw [ih];constructor
    ·rintro⟨h1,h2⟩;exact⟨h1,.inl h2⟩
    ·rintro⟨h1,h2 | h2⟩
     ·exact⟨h1,h2⟩
     ·rcases h with h | h
      ·exact absurd (h2.symm.trans h) h1
      ·rw [h2] at h;exact ih.1 h
   ·rename_i h;rw [List.mem_append,ih,List.mem_singleton];constructor
    ·rintro (⟨h1,h2⟩ | h2)
     ·exact⟨h1,.inl h2⟩
     ·exact⟨fun c=>h (.inl (by rw [←h2,c])),.inr h2.symm⟩
    ·rintro⟨h1,h2 | h2⟩
     ·exact .inl ⟨h1,h2⟩
     ·exact .inr h2.symm
theorem yU (l:List ay)(v:Bytes):v∈dI l↔v≠[]∧ ∃p∈l,bG l p=v:=by
 rw [dI,yN,Kq,List.take_length]
theorem DY (l:List ay):(dI l).Nodup:=zS (Nt l _)
theorem yT (l:List ay):(dI l).length≤l.length:=by rw [dI,FR];exact xP _ _
def rz (l:List ay):Nat→List Bytes
 | 0=>[]
 | i+1=>match l[i]? with
  | some p=>if bG l p=[] then rz l i else sK (rz l i) (bG l p)
  | none=>rz l i
theorem PH {l:List ay} {i:Nat} {p:ay} (h:l[i]? =some p):rz l (i+1)=if bG l p=[] then rz l i else sK (rz l i) (bG l p):=by rw [rz,h]
theorem Kr (l:List ay): ∀i:Nat,oH (rz l i)∧(rz l i).Nodup∧ ∀v,v∈rz l i↔v∈jh l i
 | 0=>by simp [rz,jh,oH]
 | i+1=>by
  obtain⟨h1,h2,h3⟩:=Kr l i;rw [rz,jh]
  cases hg:l[i]? with
  | none=>exact⟨h1,h2,h3⟩
  | some p=>
   simp only;by_cases c:bG l p=[]
   ·rw [if_pos c,if_pos (.inl c)];exact⟨h1,h2,h3⟩
   ·rw [if_neg c];refine⟨Jn _ h1,Ca _ h2,fun v=> ?_⟩;rw [xg,h3];split
    ·rename_i h;rcases h with h | h
     ·exact absurd h c
     ·exact⟨fun q=>q.elim (fun q=>q▸h) id,.inr⟩
    ·simp [or_comm]
theorem Kt (l:List ay): ∀i:Nat,(rz l i).length≤i
 | 0=>by simp [rz]
 | i+1=>by
  have ih:=Kt l i;rw [rz];split
  ·split
   ·omega
   ·exact Nat.le_trans (Jo _ _) (by omega)
  ·omega
theorem Tv (l:List ay):rz l l.length=dI l:=by
 obtain⟨h1,h2,h3⟩:=Kr l l.length;exact KN h1 (FQ _) h2 (DY l) fun v=>by rw [h3,dI,yN]
def iN (t:aY)(l:List ay):bS:=bI t (aW l) (xO (aW l))
def Eb (t:aY)(l:List ay):List bS:=(dI (aW l)).map fun v=>bI t (jM (aW l) v) v
def allT (t:aY)(l:List ay):List bW:=(Eb t l).flatMap (·.trips)
theorem wX {t:aY} {veh:Bytes} {cls:Bytes→Int}: ∀(l:List aX) (w:bS),(l.foldl (bV t veh cls) w).trips.length≤w.trips.length+l.length∧(l.foldl (bV t veh cls) w).out.length+(l.foldl (bV t veh cls) w).opn.length≤w.out.length+w.opn.length+l.length
 | [],w=>by simp
 | s::l,w=>by
  have ih:=wX (t:=t) (veh:=veh) (cls:=cls) l (bV t veh cls w s);have h:(bV t veh cls w s).trips.length≤w.trips.length+1∧(bV t veh cls w s).out.length+(bV t veh cls w s).opn.length≤w.out.length+w.opn.length+1:=by
   have e:=iH 11 w.opn;have e1:=iH 10 [s];have e2:=iH 12 [s];have key:(lC t veh cls w s).trips.length≤w.trips.length+1∧(lC t veh cls w s).out.length+(lC t veh cls w s).opn.length≤w.out.length+w.opn.length+1:=by
    unfold lC;split <;> simp <;> simp at e1 e2 <;> omega
   unfold bV;split <;> exact key
  rw [List.foldl_cons,List.length_cons];omega
theorem xX (t:aY)(l:List ay)(v:Bytes):(bI t l v).trips.length≤17*l.length∧(bI t l v).out.length≤19*l.length:=by
 have h:=wX (t:=t) (veh:=v) (cls:=rW (jL l l.length)) (gK t l) (bP t l (bT (aH t).net (bC t l)));have h1:=(wz (SV t) (l:=jV (aH t).net (bC t l))).2;have h2:(jV (aH t).net (bC t l)).length≤l.length:=Nat.le_trans (xe _ _ _) (nC t l);have h3:(bT (aH t).net (bC t l)).length≤l.length:=Nat.le_trans (CB _ _ _) (nC t l);have h4:=yl t l;have e:=iH 11 ((gK t l).foldl (bV t v (rW (jL l l.length))) (bP t l (bT (aH t).net (bC t l)))).opn;have h5:(gK t l).length≤17*l.length:=Nat.le_trans h1 (by omega);have h6:(bP t l (bT (aH t).net (bC t l))).out.length≤2*l.length:=by simp [bP];omega
 have h7:(bP t l (bT (aH t).net (bC t l))).trips.length=0:=rfl;have h8:(bP t l (bT (aH t).net (bC t l))).opn.length=0:=rfl;have e1:(bI t l v).trips=((gK t l).foldl (bV t v (rW (jL l l.length))) (bP t l (bT (aH t).net (bC t l)))).trips:=rfl;have e2:(bI t l v).out=((gK t l).foldl (bV t v (rW (jL l l.length))) (bP t l (bT (aH t).net (bC t l)))).out++eB 11 ((gK t l).foldl (bV t v (rW (jL l l.length))) (bP t l (bT (aH t).net (bC t l)))).opn:=rfl;rw [e1,e2,List.length_append];constructor <;> omega
theorem BL {α β:Type} {f:α→List β} {k:Nat}: ∀ {V:List α},(∀v∈V,(f v).length≤k)→(V.flatMap f).length≤V.length*k
 | [],_=>by simp
 | v::V,h=>by
  have ih:=BL (V:=V) fun x hx=>h x (by simp [hx]);have hv:=h v (by simp);rw [List.flatMap_cons,List.length_append,List.length_cons,Nat.add_mul];omega
def og (t:aY)(l:List ay):List kD:=(Eb t l).flatMap (·.out)
theorem RH {l:List ay}:match l.findIdx? (fun p=> !decide (p.tag=[])) with
  | some i=> ∃p,l[i]? =some p∧l.find? (fun p=> !decide (p.tag=[]))=some p
  | none=>l.find? (fun p=> !decide (p.tag=[]))=none:=by
 induction l with
 | nil=>rfl
 | cons a r ih=>
  rw [List.findIdx?_cons,List.find?_cons];by_cases c:a.tag=[]
  ·simp only [c,decide_true,Bool.not_true,Bool.false_eq_true,if_false]
   cases h:r.findIdx? (fun p=> !decide (p.tag=[])) with
   | none=>rw [h] at ih;simpa using ih
   | some i=>rw [h] at ih;simpa using ih
  ·simp [c]
end Go.Toll
end
section
namespace Go.Proofs.YtkpioblbeiaefaaGreat
open Go Go.Abs Go.Toll
variable {gl : aM} {h : af}
theorem iA (x:AV):Go.Abs.agd.match_1 (fun _=>Option Bool) x (fun _=>some false) (fun _=>some false)=some false:=by cases x <;> rfl
def U6 (X:ay)(l:List ay):List ay:=iQ (fun a b=>decide (rX a b<0)) X l
theorem Xc (l:List kD): ∀e∈l.map bf,∀y∈e,y.Data:=fun e he y hy=>by
 obtain⟨m,_,rfl⟩:=List.mem_map.1 he;simp [bf] at hy;rcases hy with rfl | rfl <;> simp
end Go.Proofs.YtkpioblbeiaefaaGreat
end
section
namespace Go.Toll
open Go Go.Abs
def Rm (l:List ay)(I:List Nat):List ay:=I.filterMap fun j=>l[j]?
theorem Ro {v:bn} {l:List ay}: ∀ {I:List Nat} {last:Option Nat},MJ (gL v l) l.length last I→qY v (Rm l I)=true
 | [],_,_=>rfl
 | [i],_,h=>by
  obtain⟨a,ha,_⟩:=aJ h.1;simp [Rm,ha,qY]
 | i::j::r,_,h=>by
  obtain⟨h1,_,h3⟩:=h;have ih:=Ro h3;obtain⟨h4,h5,_⟩:=h3;obtain⟨a,ha,_⟩:=aJ h1;obtain⟨b,hb,_⟩:=aJ h4;have hg:=(h5 i rfl).2;rw [TN ha hb] at hg;simp only [Rm,List.filterMap_cons,ha,hb] at ih ⊢;rw [qY,hg,ih];rfl
end Go.Toll
end
