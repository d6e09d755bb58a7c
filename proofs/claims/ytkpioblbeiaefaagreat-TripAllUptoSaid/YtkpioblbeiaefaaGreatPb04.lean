/- Part 4 of the lemmas below the statements of this seat: AbsList. -/
import Derived.Test.YtkpioblbeiaefaaGreatPb02
set_option linter.unusedSectionVars false
set_option linter.unusedVariables false
set_option linter.unusedSimpArgs false
set_option linter.unnecessarySimpa false
set_option maxRecDepth 100000
section
namespace Go.Abs
open Go
inductive AV.Pure:AV→Prop
 | bool (b:Bool):Pure (.bool b)
 | int (k:IntKind) (n:Int):Pure (.int k n)
 | str (s:List UInt8):Pure (.str s)
 | lit (x:Value):Pure (.lit x)
 | agg (cs:List AV) (h: ∀x∈cs,Pure x):Pure (.agg cs)
 | tup (cs:List AV) (h: ∀x∈cs,Pure x):Pure (.tup cs)
theorem aQ.pure {J J':List eF} {O O':Nat→Prop} {w w':World} {x:AV} {v:Value} (h:aQ J O w x v):x.Pure→aQ J' O' w' x v:=by
 induction h with
 | bool b=>exact fun _=> .bool b
 | int k n=>exact fun _=> .int k n
 | str s=>exact fun _=> .str s
 | lit x h=>exact fun _=> .lit x h
 | agg cs vs hl h1 _ ih=>intro hp;cases hp with | agg _ hp=>exact .agg cs vs hl h1 fun i x v hx hv=>ih i x v hx hv (hp x (zF hx))
 | tup cs vs hl _ ih=>intro hp;cases hp with | tup _ hp=>exact .tup cs vs hl fun i x v hx hv=>ih i x v hx hv (hp x (zF hx))
 | nil=>intro hp;cases hp
 | e0 a=>intro hp;cases hp
 | roNil=>intro hp;cases hp
 | ro=>intro hp;cases hp
 | rop=>intro hp;cases hp
 | own=>intro hp;cases hp
 | ptr=>intro hp;cases hp
 | fn=>intro hp;cases hp
 | map=>intro hp;cases hp
 | obj=>intro hp;cases hp
 | iface=>intro hp;cases hp
 | opt=>intro hp;cases hp
 | junk=>intro hp;cases hp
class GOk (gl:aR):Prop where
 ok: ∀g cs,gl g=some cs→ ∀x∈cs,x.Data
instance:GOk (fun _=>none):=⟨fun _ _ h=>by cases h⟩
theorem af.borrow {P:Program} {gl:aR} [hgl:GOk gl] {f:FuncId} {args args':List AV} {h:ak} {r:AV} (hp:r.Pure)(hf:Kr 0 h args args')
  (c:af P gl f args' [] fun x h'=>x=r∧h'=[]):af P gl f args h fun x h'=>x=r∧h'=h:=by
 refine⟨c.1,fun J w vs hh hv=> ?_⟩;have no: ∀r,¬Own [] [] r:=by rintro r ⟨b,k,o,h,_⟩;simp at h
 have hh0:dm gl [] [] w:=by
  refine⟨rfl,by intro b b' k;simp,by intro b k;simp,by intro b k;simp,fun g cs hg=> ?_⟩;have hb:(AV.rop [cs] 0 0).Bdd 0:=by
   refine .rop _ _ _ fun i e c x hi hx=> ?_;have he:e∈[cs]:=zF hi;rw [List.mem_singleton] at he;subst he;exact (hgl.ok g e hg x (zF hx)).bdd
  have:=(hh.glob g cs hg).cut (O':=Own [] []) hb (fun r ho=>(no r ho).elim);simpa using this
 have hv0:bX [] (Own [] []) w args' vs:=by
  obtain⟨hl,hg⟩:=hf.get;refine⟨by rw [hl];exact hv.1,fun i x v hx hv'=> ?_⟩;obtain⟨y,hy⟩: ∃y,args[i]? =some y:=⟨_,zB (by have:=aK hx;omega)⟩;have:=qy.sound hh (hg i y x hy hx) (hv.2 i y v hy hv');simpa using this
 refine Calls.mono' (c.2 [] w vs hh0 hv0) ?_;rintro e w' ⟨x,v,J',h',rfl,q1,q2,q3,rfl,rfl⟩;have old: ∀r,r<w.heap.size→w'.heap[r]? =w.heap[r]? :=fun r hr=>(q3.keep r hr (no r)).1;have ev:jE h J w h J w':=⟨⟨[],by simp⟩,q3.size,fun r hr hn=>⟨old r hr,hn⟩,q3.os,q3.tape,q3.output⟩;have h1:dm gl h J w':=hh.step ev hh.len hh.inj (fun b k hk=>Nat.lt_of_lt_of_le (hh.lt b k hk) q3.size) (fun b k o hk ho _=> .inl ⟨hk,ho,old _ (hh.lt b k hk)⟩);exact⟨x,v,J,h,rfl,h1,q2.pure hp,ev,rfl,rfl⟩
theorem aW.join {P:Program} {gl:aR} {N:Nat} {c:Code} {Q:dN} {p q:Prop} {fr fr':aP} {h h':ak} (I:aP→ak→Prop)(h1:p→I fr h)(h2:q→I fr' h')(k: ∀fr h,I fr h→aW P gl N c Q fr h):(p→aW P gl N c Q fr h)∧(q→aW P gl N c Q fr' h'):=
 ⟨fun hp=>k _ _ (h1 hp),fun hq=>k _ _ (h2 hq)⟩
end Go.Abs
end
section
namespace Go.Abs
open Go
def Ls (n lo:Nat)(h:ak)(x:AV)(es:List (List AV)):Prop:=
 ((x= .nil∧es=[])∨ ∃b,x= .own b 0 es.length∧lo≤b∧h[b]? =some (.cells n es))∧ ∀e∈es,e.length=n
def bu (P:Program)(h:ak)(ts:List TypeId)(n:Nat)(x:AV)(ys:List (List AV)):Prop:=match ts with
 | [t,u]=>(match (ax P u).kind with | .int _=>False | _=>True)∧(ax P u).ok=true∧
  (match (ax P t).kind with | .slice e=>mZ (ax P e)∧(ax P e).cells=n∧0<n∧(ax P e).bytes≤1000 | _=>False)∧slOk h x∧aelems h x=ys∧ ∀y∈ys,y.length=n
 | _=>False
structure Grow (lo:Nat)(h:ak)(s:AV)(h':ak):Prop where
 keep: ∀(b:Nat) (o:cZ),h[b]? =some o→(∀off len,s≠ .own b off len)→h'[b]? =some o
 base: ∀h₀:ak,h₀.length≤lo→(∃g,h=h₀++g)→ ∃g,h'=h₀++g
 len:h.length≤h'.length
section
variable {P : Program} {n lo : Nat} {h h' : ak} {x s : AV} {es ys : List (List AV)} {k : AV → ak → Prop} {ts : List TypeId}
theorem Ls.nil:Ls n lo h .nil []:=⟨.inl ⟨rfl,rfl⟩,by simp⟩
theorem Ls.own {b len:Nat} (hb:h[b]? =some (.cells n es))(hl:lo≤b)(he:len=es.length)(hn: ∀e∈es,e.length=n):Ls n lo h (.own b 0 len) es:=⟨.inr ⟨b,by rw [he],hl,hb⟩,hn⟩
theorem Ls.grow {lo':Nat} {t:AV} (r:Ls n lo h x es)(g:Grow lo' h t h')(hne: ∀b,x= .own b 0 es.length→lo≤b→ ∀off len,t≠ .own b off len):Ls n lo h' x es:=by
 obtain⟨r,hn⟩:=r;refine⟨?_,hn⟩;rcases r with h1 | ⟨b,rfl,hl,hb⟩
 ·exact .inl h1
 ·exact .inr ⟨b,rfl,hl,g.keep b _ hb (hne b rfl hl)⟩
theorem Ls.more (r:Ls n lo h x es)(g:ak):Ls n lo (h++g) x es:=by
 obtain⟨r,hn⟩:=r;refine⟨?_,hn⟩;rcases r with h1 | ⟨b,rfl,hl,hb⟩
 ·exact .inl h1
 ·refine .inr ⟨b,rfl,hl,?_⟩;rw [zC (zA.1 hb).1];exact hb
theorem Ls.put {b:Nat} {o:cZ} (r:Ls n lo h x es)(hb:b<lo):Ls n lo (h.set b o) x es:=by
 obtain⟨r,hn⟩:=r;refine⟨?_,hn⟩;rcases r with h1 | ⟨b',rfl,hl,hb'⟩
 ·exact .inl h1
 ·exact .inr ⟨b',rfl,hl,by rw [zJ (by omega)];exact hb'⟩
theorem GI (r:Ls n lo h x es):aelems h x=es:=by
 rcases r.1 with⟨rfl,rfl⟩ | ⟨b,rfl,_,hb⟩
 ·rfl
 ·simp [hb]
theorem nT (r:Ls n lo h s es)(hlo:lo≤h.length)(hok:bu P h ts n x ys)(hl:es.length+ys.length≤100000000)
  (hc: ∀s' h',Ls n lo h' s' (es++ys)→Grow lo h s h'→k s' h'):ae P h ts s x∧ai n h s x k:=by
 unfold bu at hok;split at hok
 ·rename_i t u;obtain⟨hu,huo,ht,hx,hy,hyn⟩:=hok;split at ht
  ·rename_i e he;obtain⟨hz,hcn,hn0,hbt⟩:=ht;have hes:=GI r;have hlen:(es.length+ys.length)*(ax P e).bytes≤140737488355328:=Nat.le_trans (Nat.mul_le_mul hl hbt) (by omega);refine⟨⟨hu,huo,?_⟩,?_⟩
   ·rw [he];refine⟨hz,by omega,?_,?_,hx,by rw [hes,hcn];exact r.2,by rw [hy,hcn];exact hyn,by rw [hes,hy];exact hlen,by rw [hes,hy];omega⟩
    ·rcases r.1 with⟨rfl,_⟩ | ⟨b,rfl,_,hb⟩
     ·trivial
     ·simp [hb,hcn]
    ·rcases r.1 with⟨rfl,_⟩ | ⟨b,rfl,_,hb⟩
     ·trivial
     ·simp [slOk,hb]
   ·have hnew: ∀(h1:ak),(h1++[cZ.cells n (es++ys)])[h1.length]? =some (.cells n (es++ys)):=by simp
    have hall: ∀e∈es++ys,e.length=n:=by
     intro e he;rcases List.mem_append.1 he with h1 | h1
     ·exact r.2 e h1
     ·exact hyn e h1
    rcases r.1 with⟨rfl,rfl⟩ | ⟨b,rfl,hlb,hb⟩
    ·unfold ai;rw [hy];refine⟨fun h0=>hc _ _ ⟨.inl ⟨rfl,by simp [h0]⟩,hall⟩ ⟨fun b o hb _=>hb,fun h₀ _ hg=>hg,Nat.le_refl _⟩,fun h0=>hc _ _ ⟨.inr ⟨h.length,by simp,hlo,by simp⟩,hall⟩ ⟨fun b o hb _=> ?_,?_,by simp⟩⟩
     ·rw [zC (zA.1 hb).1];exact hb
     ·rintro h₀ _ ⟨g,rfl⟩;exact⟨g++_,by rw [zK]⟩
    ·unfold ai;rw [hes,hy];refine hc _ _ ⟨.inr ⟨h.length,by simp,hlo,by simp⟩,hall⟩ ⟨fun b' o hb' hne=> ?_,?_,by simp⟩
     ·have hbb:b'≠b:=by rintro rfl;exact hne 0 es.length rfl
      rw [zC (by simp;exact (zA.1 hb').1),zJ (Ne.symm hbb)];exact hb'
     ·rintro h₀ hl₀ ⟨g,rfl⟩;refine⟨g.set (b - h₀.length) .dead++[.cells n (es++ys)],?_⟩;rw [List.set_append,if_neg (by omega),zK]
  ·exact ht.elim
 ·exact hok.elim
theorem Ls.frz (r:Ls n lo h x es) {m:Nat} (hm:m≤lo)(hd: ∀e∈es,∀y∈e,y.Data):qy m h x (.ro es):=by
 rcases r.1 with⟨rfl,rfl⟩ | ⟨b,rfl,hl,hb⟩
 ·exact .nil
 ·obtain⟨hlt,hge⟩:=zA.1 hb;exact qy.ownD hb (by omega) (by omega) (by simp) hd
end
theorem PY (p:AV×AV)(kvs:List (AV×AV))(k:AV):o9 (p::kvs) k=if ku (ah k) (ah p.1)=true then some 0 else (o9 kvs k).map (· +1):=by
 rw [o9,List.findIdx?_cons];rfl
theorem P7 (p:AV×AV)(kvs:List (AV×AV))(k v:AV):w9 (p::kvs) k v=if ku (ah k) (ah p.1)=true then (k,v)::kvs else p::w9 kvs k v:=by
 unfold w9;rw [PY];by_cases h:ku (ah k) (ah p.1)=true
 ·rw [if_pos h,if_pos h];rfl
 ·rw [if_neg h,if_neg h];cases o9 kvs k <;> rfl
theorem M4 (p:AV×AV)(kvs:List (AV×AV))(k:AV):iy (p::kvs) k=if ku (ah k) (ah p.1)=true then some p.2 else iy kvs k:=by
 unfold iy;rw [List.find?_cons];split
 ·rename_i h;rw [if_pos h];rfl
 ·rename_i h;rw [if_neg (by rw [h];exact Bool.false_ne_true)]
def Rs (n:Nat)(h:ak)(x:AV)(es:List (List AV)):Prop:=Rd n h x es∨(es=[]∧(x= .nil∨x= .e0))
section
variable {P : Program} {n lo : Nat} {h : ak} {x : AV} {es : List (List AV)}
theorem Ls.rs (r:Ls n lo h x es):Rs n h x es:=by
 obtain⟨r,hn⟩:=r;rcases r with⟨rfl,rfl⟩ | ⟨b,rfl,_,hb⟩
 ·exact .inr ⟨rfl,.inl rfl⟩
 ·exact .inl (Rd.own hb hn)
theorem Rs.ro (hn: ∀e∈es,e.length=n):Rs n h (.ro es) es:= .inl (.ro hn)
theorem Rs.nil:Rs n h .nil []:= .inr ⟨rfl,.inl rfl⟩
theorem Rs.own {b:Nat} (hb:h[b]? =some (.cells n es))(hn: ∀e∈es,e.length=n):Rs n h (.own b 0 es.length) es:= .inl (.own hb hn)
theorem Rs.sub {b off len:Nat} {all:List (List AV)} (hb:h[b]? =some (.cells n all))(hl:off+len≤all.length)(he:es=(all.drop off).take len)(hn: ∀e∈es,e.length=n):Rs n h (.own b off len) es:=by
 have hle:es.length=len:=by rw [he];simp;omega
 refine .inl ⟨.inr ⟨b,off,all,by rw [hle],hb,by omega,fun i hi=> ?_⟩,hn⟩;rw [he,List.getElem?_take_of_lt (by omega),List.getElem?_drop]
theorem Rs.append (r:Rs n h x es)(g:ak):Rs n (h++g) x es:=r.imp (fun r=>r.append g) id
theorem Rs.alen (r:Rs n h x es):alen h x=es.length:=by rcases r with r | ⟨rfl,rfl | rfl⟩ <;> first | exact r.alen | rfl
theorem Rs.lenOk (r:Rs n h x es) {e:TypeId}:lenOk h (.slice e) x↔True:=by rcases r with r | ⟨rfl,rfl | rfl⟩ <;> first | exact r.lenOk | simp [Go.Abs.lenOk]
theorem Rs.rd (r:Rs n h x es) {i:Nat} (hi:i<es.length):Rd n h x es:=by rcases r with r | ⟨rfl,_⟩;exact r;simp at hi
theorem Rs.len (r:Rs n h x es): ∀e∈es,e.length=n:=by rcases r with r | ⟨rfl,_⟩;exact r.2;simp
theorem Rs.slOk (r:Rs n h x es):slOk h x:=by
 rcases r with⟨rfl | ⟨b,off,all,rfl,hb,hl,_⟩,_⟩ | ⟨_,rfl | rfl⟩ <;> try trivial
 simp [Go.Abs.slOk,hb,hl]
theorem Rs.aelems (r:Rs n h x es):aelems h x=es:=by
 rcases r with⟨rfl | ⟨b,off,all,rfl,hb,hl,hg⟩,_⟩ | ⟨rfl,rfl | rfl⟩ <;> try rfl
 simp only [Go.Abs.aelems,hcells,hb];refine List.ext_getElem? fun i=> ?_;rcases zN i es.length with hi | hi
 ·rw [List.getElem?_take_of_lt hi,List.getElem?_drop,hg i hi]
 ·rw [List.getElem?_eq_none (by simp;omega),List.getElem?_eq_none hi]
theorem Rs.frz (r:Rs n h x es)(hd: ∀e∈es,∀y∈e,y.Data):qy 0 h x (.ro es):=by
 have hx:=r.aelems;rcases r with⟨rfl | ⟨b,off,all,rfl,hb,hl,hg⟩,_⟩ | ⟨rfl,rfl | rfl⟩
 ·exact .data _ (.ro _ hd)
 ·simp only [Go.Abs.aelems,hcells,hb] at hx;exact qy.ownD hb (by omega) hl hx.symm hd
 ·exact .nil
 ·exact .e0
theorem Rs.ix (P:Program)(r:Rs n h x es)(i:Int)(h0:0≤i) {y:List AV} (hy:es[i.toNat]? =some y):
  (∀e,(ax P e).ok=true→(ax P e).cells=n→(iaddrOk P h (.slice e) x i↔True))∧(∀e,(dO P (.slice e) x i).core=dO P (.slice e) x i)∧(∀e,(dO P (.slice e) x i).gd=true)∧
  (∀e t,loadV P h t (dO P (.slice e) x i)=ui (ax P t) y 0)∧(∀e t,loadOk P h t (dO P (.slice e) x i)↔mr (ax P t) y 0)∧(∀e,faddrOk (dO P (.slice e) x i)↔True)∧
  (∀e s f,(kw P s f (dO P (.slice e) x i)).core=kw P s f (dO P (.slice e) x i))∧(∀e s f,(kw P s f (dO P (.slice e) x i)).gd=true)∧
  (∀e s f t,loadV P h t (kw P s f (dO P (.slice e) x i))=ui (ax P t) y (oG (ax P s) f))∧(∀e s f t,loadOk P h t (kw P s f (dO P (.slice e) x i))↔mr (ax P t) y (oG (ax P s) f)):=by
 have hlt:i<es.length:=by have:=(zA.1 hy).1;omega
 have r:=r.rd (i:=i.toNat) (by omega);exact⟨fun e a b=>r.iaddrOk a b h0 hlt,fun e=>r.icore h0 hlt,fun e=>r.igd h0 hlt,fun e t=>r.loadV h0 hlt hy,fun e t=>r.loadOk h0 hlt hy,fun e=>r.faddrOk h0 hlt,fun e s f=>r.fcore h0 hlt,fun e s f=>r.fgd h0 hlt,
  fun e s f t=>r.floadV h0 hlt hy,fun e s f t=>r.floadOk h0 hlt hy⟩
theorem Rs.fix (r:Rs n h x es):x.core=x∧x.gd=true∧x.solid=true∧ah x=[x]:=by
 rcases r with⟨rfl | ⟨_,_,_,rfl,_⟩,_⟩ | ⟨_,rfl | rfl⟩ <;> exact⟨rfl,rfl,rfl,rfl⟩
theorem Rs.len2 (r:Rs n h x es):Go.Abs.alen h x=es.length∧ ∀e,Go.Abs.lenOk h (.slice e) x↔True:=⟨r.alen,fun e=>r.lenOk⟩
end
end Go.Abs
end
section
namespace Go.Abs
open Go
section
variable {P : Program} {n lo : Nat} {h h' : ak} {x s : AV} {es ys : List (List AV)} {k : AV → ak → Prop} {ts : List TypeId}
theorem aG (r:Ls n lo h s es)(hlo:lo≤h.length)(hok:bu P h ts n x ys)(hl:es.length+ys.length≤100000000)
  (hc: ∀s' h',Ls n lo h' s' (es++ys)→Grow lo h s h'→(∀b off len,s'= .own b off len→h.length≤b)→k s' h'):ae P h ts s x∧ai n h s x k:=by
 unfold bu at hok;split at hok
 ·rename_i t u;obtain⟨hu,huo,ht,hx,hy,hyn⟩:=hok;split at ht
  ·rename_i e he;obtain⟨hz,hcn,hn0,hbt⟩:=ht;have hes:=GI r;have hlen:(es.length+ys.length)*(ax P e).bytes≤140737488355328:=Nat.le_trans (Nat.mul_le_mul hl hbt) (by omega);refine⟨⟨hu,huo,?_⟩,?_⟩
   ·rw [he];refine⟨hz,by omega,?_,?_,hx,by rw [hes,hcn];exact r.2,by rw [hy,hcn];exact hyn,by rw [hes,hy];exact hlen,by rw [hes,hy];omega⟩
    ·rcases r.1 with⟨rfl,_⟩ | ⟨b,rfl,_,hb⟩
     ·trivial
     ·simp [hb,hcn]
    ·rcases r.1 with⟨rfl,_⟩ | ⟨b,rfl,_,hb⟩
     ·trivial
     ·simp [slOk,hb]
   ·have hnew: ∀(h1:ak),(h1++[cZ.cells n (es++ys)])[h1.length]? =some (.cells n (es++ys)):=by simp
    have hall: ∀e∈es++ys,e.length=n:=by
     intro e he;rcases List.mem_append.1 he with h1 | h1
     ·exact r.2 e h1
     ·exact hyn e h1
    rcases r.1 with⟨rfl,rfl⟩ | ⟨b,rfl,hlb,hb⟩
    ·unfold ai;rw [hy];refine⟨fun h0=>hc _ _ ⟨.inl ⟨rfl,by simp [h0]⟩,hall⟩ ⟨fun b o hb _=>hb,fun h₀ _ hg=>hg,Nat.le_refl _⟩ (by simp),fun h0=>hc _ _ ⟨.inr ⟨h.length,by simp,hlo,by simp⟩,hall⟩ ⟨fun b o hb _=> ?_,?_,by simp⟩ (by simp)⟩
     ·rw [zC (zA.1 hb).1];exact hb
     ·rintro h₀ _ ⟨g,rfl⟩;exact⟨g++_,by rw [zK]⟩
    ·unfold ai;rw [hes,hy];refine hc _ _ ⟨.inr ⟨h.length,by simp,hlo,by simp⟩,hall⟩ ⟨fun b' o hb' hne=> ?_,?_,by simp⟩ (by simp)
     ·have hbb:b'≠b:=by rintro rfl;exact hne 0 es.length rfl
      rw [zC (by simp;exact (zA.1 hb').1),zJ (Ne.symm hbb)];exact hb'
     ·rintro h₀ hl₀ ⟨g,rfl⟩;refine⟨g.set (b - h₀.length) .dead++[.cells n (es++ys)],?_⟩;rw [List.set_append,if_neg (by omega),zK]
  ·exact ht.elim
 ·exact hok.elim
end
theorem Rs.cut (P:Program) {n:Nat} {h:ak} {x:AV} {es:List (List AV)} (r:Rs n h x es)(hn:0<n)(l u:Option Int)(h0:eD es.length l u):
  Rs n h (aS x l u) ((es.take (eY u es.length)).drop ((l.map Int.toNat).getD 0))∧ ∀e,(ax P e).ok=true→(ax P e).cells=n→aU P h (.slice e) x l u:=by
 have hlen: ∀e∈(es.take (eY u es.length)).drop ((l.map Int.toNat).getD 0),e.length=n:=fun e he=>r.len e (List.mem_of_mem_take (List.mem_of_mem_drop he));have hb1:eY u es.length≤es.length:=by
  obtain⟨h1,h2⟩:=h0
  cases u with
  | none=>simp [eY]
  | some k=>simp only [tQ] at h1;simp [eY];omega
 have hb2:(l.map Int.toNat).getD 0≤eY u es.length:=by
  obtain⟨h1,h2⟩:=h0
  cases l with
  | none=>simp
  | some k=>simp only [tQ] at h2;show k.toNat≤_;omega
 rcases r with⟨rfl | ⟨b,off,all,rfl,hb,hl,hg⟩,hn'⟩ | ⟨rfl,rfl | rfl⟩
 ·exact⟨Rs.ro hlen,fun e ho hc=>⟨ho,fun y hy=>by rw [hc];exact hn' y hy,h0⟩⟩
 ·refine⟨.inl ⟨.inr ⟨b,off+(l.map Int.toNat).getD 0,all,?_,hb,?_,fun i hi=> ?_⟩,hlen⟩,fun e ho hc=>⟨ho,?_,?_,h0⟩⟩
  ·rw [aS,List.length_drop,List.length_take,Nat.min_eq_left hb1]
  ·rw [List.length_drop,List.length_take,Nat.min_eq_left hb1];omega
  ·rw [List.length_drop,List.length_take,Nat.min_eq_left hb1] at hi;rw [List.getElem?_drop,List.getElem?_take_of_lt (by omega),Nat.add_assoc];exact hg _ (by omega)
  ·simp only [hsz,hb];exact hn
  ·simp only [hsz,hb];exact hc.symm
 ·exact⟨.inr ⟨by simp,.inl rfl⟩,fun e ho hc=>⟨ho,h0⟩⟩
 ·exact⟨.inr ⟨by simp,.inr rfl⟩,fun e ho hc=>⟨ho,h0⟩⟩
theorem bL {P:Program} {n:Nat} {h:ak} {x:AV} {ys:List (List AV)} {t u:TypeId} (r:Rs n h x ys)(hu:match (ax P u).kind with | .int _=>False | _=>True)(ho:(ax P u).ok=true)
  (ht:match (ax P t).kind with | .slice e=>mZ (ax P e)∧(ax P e).cells=n∧0<n∧(ax P e).bytes≤1000 | _=>False):bu P h [t,u] n x ys:=⟨hu,ho,ht,r.slOk,r.aelems,r.len⟩
structure gu (n lo:Nat)(h:ak)(x:AV)(cs:List AV)(rows:List (List (List AV))):Prop where
 len:cs.length=rows.length
 out:Ls 1 lo h x (cs.map fun c=>[c])
 each: ∀(k:Nat) (c:AV) (r:List (List AV)),cs[k]? =some c→rows[k]? =some r→Rs n h c r∧ ∀b off len,c= .own b off len→lo≤b∧ ∀off' len',x≠ .own b off' len'
 apart: ∀(i j b off len off' len':Nat),cs[i]? =some (.own b off len)→cs[j]? =some (.own b off' len')→i=j
section
variable {P : Program} {n lo : Nat} {h h' : ak} {x c : AV} {cs : List AV} {rows : List (List (List AV))} {r : List (List AV)}
theorem gu.nil:gu n lo h .nil [] []:=⟨rfl,Ls.nil,by simp,by simp⟩
theorem Rs.lt {b off len:Nat} (hr:Rs n h c r)(e:c= .own b off len):b<h.length:=by
 subst e;rcases hr with⟨e | ⟨b,off,all,e,hb,he⟩,hn⟩ | ⟨_,e | e⟩
 ·cases e
 ·cases e;exact (zA.1 hb).1
 ·cases e
 ·cases e
theorem gu.lt (q:gu n lo h x cs rows) {b off len:Nat} (hm:AV.own b off len∈cs):b<h.length:=by
 obtain⟨k,hk⟩:=List.getElem?_of_mem hm;have hkl:=(zA.1 hk).1;have hr:rows[k]? =some (rows[k]'(by rw [←q.len];exact hkl)):=zB _;exact (q.each k _ _ hk hr).1.lt rfl
theorem Rs.keep {lo':Nat} {t:AV} (hr:Rs n h c r)(g:Grow lo' h t h')(hne: ∀b off len,c= .own b off len→ ∀off' len',t≠ .own b off' len'):Rs n h' c r:=by
 rcases hr with⟨rfl | ⟨b,off,all,rfl,hb,he⟩,hn⟩ | hr
 ·exact .inl ⟨.inl rfl,hn⟩
 ·exact .inl ⟨.inr ⟨b,off,all,rfl,g.keep b _ hb (hne b _ _ rfl),he⟩,hn⟩
 ·exact .inr hr
theorem Rs.keep' (hr:Rs n h c r)(hk: ∀b off len o,c= .own b off len→h[b]? =some o→h'[b]? =some o):Rs n h' c r:=by
 rcases hr with⟨rfl | ⟨b,off,all,rfl,hb,he⟩,hn⟩ | hr
 ·exact .inl ⟨.inl rfl,hn⟩
 ·exact .inl ⟨.inr ⟨b,off,all,rfl,hk b _ _ _ rfl hb,he⟩,hn⟩
 ·exact .inr hr
theorem gu.more (q:gu n lo h x cs rows)(g:ak):gu n lo (h++g) x cs rows:=
 ⟨q.len,q.out.more g,fun k c r h1 h2=>⟨(q.each k c r h1 h2).1.append g,(q.each k c r h1 h2).2⟩,q.apart⟩
theorem gu.grow {lo':Nat} {t:AV} (q:gu n lo h x cs rows)(g:Grow lo' h t h')(ho: ∀b,x= .own b 0 cs.length→ ∀off len,t≠ .own b off len)
  (hi: ∀c∈cs,∀b off len,c= .own b off len→ ∀off' len',t≠ .own b off' len'):gu n lo h' x cs rows:=by
 refine⟨q.len,q.out.grow g (fun b e _=>ho b (by rw [e];simp)),fun k c r h1 h2=> ?_,q.apart⟩;obtain⟨e1,e2⟩:=q.each k c r h1 h2;exact⟨e1.keep g (hi c (zF h1)),e2⟩
theorem gu.keep (q:gu n lo h x cs rows)(hk: ∀b o,(∃off len,x= .own b off len)∨(∃off len,AV.own b off len∈cs)→h[b]? =some o→h'[b]? =some o):gu n lo h' x cs rows:=by
 refine⟨q.len,⟨?_,q.out.2⟩,fun k c r h1 h2=> ?_,q.apart⟩
 ·rcases q.out.1 with h1 | ⟨b,h1,h2,h3⟩
  ·exact .inl h1
  ·exact .inr ⟨b,h1,h2,hk b _ (.inl ⟨_,_,h1⟩) h3⟩
 ·obtain⟨e1,e2⟩:=q.each k c r h1 h2;exact⟨e1.keep' fun b off len o e hb=>hk b o (.inr ⟨off,len,e▸zF h1⟩) hb,e2⟩
theorem gu.put0 {b:Nat} {o:cZ} (q:gu n lo h x cs rows)(hb:b<lo):gu n lo (h.set b o) x cs rows:=by
 refine q.keep fun b' o' hm ho=> ?_;have hl:lo≤b':=by
  rcases hm with⟨off,len,e⟩ | ⟨off,len,e⟩
  ·rcases q.out.1 with⟨e1,_⟩ | ⟨b1,e1,h1,_⟩
   ·rw [e1] at e;cases e
   ·rw [e1] at e;injection e with e2;omega
  ·obtain⟨k,hk⟩:=List.getElem?_of_mem e;have hkl:=(zA.1 hk).1;have hr:rows[k]? =some (rows[k]'(by rw [←q.len];exact hkl)):=zB _;exact ((q.each k _ _ hk hr).2 _ _ _ rfl).1
 rw [zJ (by omega)];exact ho
theorem gu.low (q:gu n lo h x cs rows) {lo':Nat} (hl:lo'≤lo):gu n lo' h x cs rows:=by
 refine⟨q.len,⟨?_,q.out.2⟩,fun k c r h1 h2=>⟨(q.each k c r h1 h2).1,fun b off len e=>⟨?_,((q.each k c r h1 h2).2 b off len e).2⟩⟩,q.apart⟩
 ·rcases q.out.1 with h1 | ⟨b,h1,h2,h3⟩
  ·exact .inl h1
  ·exact .inr ⟨b,h1,by omega,h3⟩
 ·have:=((q.each k c r h1 h2).2 b off len e).1;omega
theorem gu.put {bx k:Nat} {d:AV} {s:List (List AV)} (q:gu n lo h x cs rows)(hx:x= .own bx 0 cs.length)(hk:k<cs.length)(hd:Rs n h' d s)
  (hd': ∀b off len,d= .own b off len→lo≤b∧b≠bx∧ ∀off' len',AV.own b off' len'∈cs→cs[k]? =some (.own b off' len'))
  (hkeep: ∀b o,h[b]? =some o→b≠bx→(∀off len,cs[k]? ≠some (.own b off len))→h'[b]? =some o) (hb:h'[bx]? =some (.cells 1 ((cs.map fun c=>[c]).set k [d]))):
  gu n lo h' x (cs.set k d) (rows.set k s):=by
 have hbx:lo≤bx:=by
  rcases q.out.1 with⟨e,_⟩ | ⟨b,e,hl,_⟩
  ·rw [hx] at e;cases e
  ·rw [hx] at e;injection e with e1;omega
 refine⟨by simp [q.len],⟨.inr ⟨bx,by rw [hx];simp,hbx,by rw [List.map_set];exact hb⟩,?_⟩,fun j c r h1 h2=> ?_,fun i j b off len off' len' h1 h2=> ?_⟩
 ·intro e he;obtain⟨c,_,rfl⟩:=List.mem_map.1 he;rfl
 ·by_cases e:k=j
  ·subst e;rw [List.getElem?_set,if_pos rfl,if_pos hk] at h1;rw [List.getElem?_set,if_pos rfl,if_pos (by rw [←q.len];exact hk)] at h2;obtain rfl:=Option.some.inj h1;obtain rfl:=Option.some.inj h2;exact⟨hd,fun b off len e=>⟨(hd' b off len e).1,fun off' len' e'=>by rw [hx] at e';cases e';exact (hd' _ off len e).2.1 rfl⟩⟩
  ·rw [List.getElem?_set,if_neg e] at h1 h2;obtain⟨e1,e2⟩:=q.each j c r h1 h2;refine⟨e1.keep' fun b off len o ec hbo=>hkeep b o hbo ?_ ?_,e2⟩
   ·rintro rfl;exact (e2 _ off len ec).2 _ _ hx
   ·intro off' len' ek;subst ec;exact e (q.apart _ _ _ _ _ _ _ ek h1)
 ·rw [List.getElem?_set] at h1 h2;by_cases e1:k=i <;> by_cases e2:k=j
  ·omega
  ·rw [if_pos e1,if_pos hk] at h1;rw [if_neg e2] at h2;have:=(hd' b _ _ (Option.some.inj h1)).2.2 _ _ (zF h2);exact absurd (q.apart _ _ _ _ _ _ _ this h2) e2
  ·rw [if_pos e2,if_pos hk] at h2;rw [if_neg e1] at h1;have:=(hd' b _ _ (Option.some.inj h2)).2.2 _ _ (zF h1);exact absurd (q.apart _ _ _ _ _ _ _ this h1) e1
  ·rw [if_neg e1] at h1;rw [if_neg e2] at h2;exact q.apart _ _ _ _ _ _ _ h1 h2
def NL (n lo:Nat)(h:ak)(cs:List AV)(rows:List (List (List AV))):Prop:= ∀(k:Nat) (c:AV) (r:List (List AV)),cs[k]? =some c→rows[k]? =some r→Ls n lo h c r
theorem Ls.keep' {c:AV} {r:List (List AV)} (q:Ls n lo h c r)(hk: ∀b len o,c= .own b 0 len→h[b]? =some o→h'[b]? =some o):Ls n lo h' c r:=by
 obtain⟨q,hn⟩:=q;refine⟨?_,hn⟩;rcases q with h1 | ⟨b,rfl,hl,hb⟩
 ·exact .inl h1
 ·exact .inr ⟨b,rfl,hl,hk b _ _ rfl hb⟩
theorem NL.put {bx k:Nat} {d:AV} {s:List (List AV)} (l:NL n lo h cs rows)(q:gu n lo h x cs rows)(hx:x= .own bx 0 cs.length)(hk:k<cs.length)(hd:Ls n lo h' d s)
  (hkeep: ∀b o,h[b]? =some o→b≠bx→(∀off len,cs[k]? ≠some (.own b off len))→h'[b]? =some o):NL n lo h' (cs.set k d) (rows.set k s):=by
 intro j c r h1 h2;by_cases e:k=j
 ·subst e;rw [List.getElem?_set,if_pos rfl,if_pos hk] at h1;rw [List.getElem?_set,if_pos rfl,if_pos (by rw [←q.len];exact hk)] at h2;obtain rfl:=Option.some.inj h1;obtain rfl:=Option.some.inj h2;exact hd
 ·rw [List.getElem?_set,if_neg e] at h1 h2;obtain⟨e1,e2⟩:=q.each j c r h1 h2;refine (l j c r h1 h2).keep' fun b len o ec hbo=>hkeep b o hbo ?_ ?_
  ·rintro rfl;exact (e2 _ _ len ec).2 _ _ hx
  ·intro off' len' ek;subst ec;exact e (q.apart _ _ _ _ _ _ _ ek h1)
theorem Rs.frzD {m:Nat} (hr:Rs n h c r)(hm: ∀b off len,c= .own b off len→m≤b)(hd: ∀e∈r,∀y∈e,y.Data):qy m h c (.ro r):=by
 have hx:=hr.aelems;rcases hr with⟨rfl | ⟨b,off,all,rfl,hb,hl,hg⟩,_⟩ | ⟨rfl,rfl | rfl⟩
 ·exact .data _ (.ro _ hd)
 ·simp only [Go.Abs.aelems,hcells,hb] at hx;exact qy.ownD hb (hm _ _ _ rfl) hl hx.symm hd
 ·exact .nil
 ·exact .e0
end
end Go.Abs
end
section
namespace Go.Abs
open Go
def killL (h:ak):List Nat→ak
 | []=>h
 | b::ks=>killL (h.set b .dead) ks
theorem iT: ∀(ks:List Nat) (h:ak),(killL h ks).length=h.length
 | [],h=>rfl
 | b::ks,h=>by rw [killL,iT ks];simp
theorem Hq: ∀(ks:List Nat) (h:ak) (b:Nat) (o:cZ),(killL h ks)[b]? =some o→o≠ .dead→h[b]? =some o∧b∉ks
 | [],h,b,o,h1,_=>⟨h1,by simp⟩
 | c::ks,h,b,o,h1,h2=>by
  obtain⟨h3,h4⟩:=Hq ks _ b o h1 h2;rw [List.getElem?_set] at h3;by_cases e:c=b
  ·rw [if_pos e] at h3;split at h3
   ·exact absurd (Option.some.inj h3).symm h2
   ·cases h3
  ·rw [if_neg e] at h3;exact⟨h3,by simp [h4];exact fun h=>e h.symm⟩
theorem iH: ∀(ks:List Nat) (h:ak) (b:Nat),b∉ks→(killL h ks)[b]? =h[b]?
 | [],h,b,_=>rfl
 | c::ks,h,b,hb=>by
  rw [killL,iH ks _ b (fun e=>hb (List.mem_cons_of_mem _ e)),zJ (fun e=>hb (by rw [e];exact List.mem_cons_self))]
section
variable {gl : aR} {h : ak} {J : List eF} {w : World}
theorem dm.killL (hh:dm gl h J w)(ks:List Nat):dm gl (killL h ks) J w∧jE h J w (Go.Abs.killL h ks) J w:=by
 induction ks generalizing h with
 | nil=>exact⟨hh,jE.refl _ _ _⟩
 | cons b ks ih=>
  obtain⟨h1,e1⟩:=hh.kill (b:=b);obtain⟨h2,e2⟩:=ih h1;exact⟨h2,e1.trans e2⟩
end
inductive gq (ks:List Nat)(h:ak):AV→AV→Prop
 | same (x:AV):gq ks h x x
 | nil:gq ks h .nil (.ro [])
 | e0:gq ks h .e0 (.ro [])
 | own (b off len m:Nat) (es es':List (List AV)) (hn:b∈ks) (hb:h[b]? =some (.cells m es)) (hl:off+len≤es.length) (hl':es'.length=len)
   (hlen: ∀(i:Nat) (e e':List AV),es[off+i]? =some e→es'[i]? =some e'→e'.length=e.length)
   (hc: ∀(i:Nat) (e e':List AV) (c:Nat) (x x':AV),es[off+i]? =some e→es'[i]? =some e'→e[c]? =some x→e'[c]? =some x'→gq ks h x x'):gq ks h (.own b off len) (.ro es')
 | agg (cs cs':List AV) (hl:cs'.length=cs.length) (hc: ∀(i:Nat) (x x':AV),cs[i]? =some x→cs'[i]? =some x'→gq ks h x x'):gq ks h (.agg cs) (.agg cs')
 | tup (cs cs':List AV) (hl:cs'.length=cs.length) (hc: ∀(i:Nat) (x x':AV),cs[i]? =some x→cs'[i]? =some x'→gq ks h x x'):gq ks h (.tup cs) (.tup cs')
theorem gq.sound {gl:aR} {ks:List Nat} {h:ak} {J:List eF} {w:World} (hh:dm gl h J w) {x x':AV} (hf:gq ks h x x'): ∀ {v:Value},aQ J (Own h J) w x v→aQ J (Own (killL h ks) J) w x' v:=by
 have ev:=(hh.killL ks).2
 induction hf with
 | same x=>exact fun hv=>hv.evo ev
 | nil=>intro v hv;cases hv;exact .roNil
 | e0=>
  intro v hv
  cases hv with
  | e0 a=>
   cases a with
   | none=>exact .roNil
   | some a=>exact aQ.ro [] a 1 0 (fun _ _=>undef) (by simp) (by omega) (.inl rfl) (by simp) (by simp) (by simp) (by simp)
 | own b off len m es es' hn hb hl hl' hlen hc ih=>
  intro v hv
  cases hv with
  | own _ _ _ k a cap hk ha hle hcap=>
   obtain⟨h0,h1,h2,h3,vs,T,h4,h5,h6⟩:=hh.obj b k _ hk hb;rw [←hl'];by_cases hes:es'=[]
   ·subst hes;exact aQ.ro [] a 1 cap (fun _ _=>undef) (by simp) (by omega) (.inl rfl) (by simp) (by simp) (by simp) (by simp)
   ·have hpos:0<len:=by rw [←hl'];exact List.length_pos_iff.2 hes
    have ha':=ha (by omega);subst ha';have hnot: ¬Own (killL h ks) J k.r:=by
     rintro⟨b',k',o',q1,q2,q3,q4⟩;obtain⟨q5,q6⟩:=Hq ks h b' o' q2 q3;have:=hh.inj b b' k k' _ o' hk q1 hb q5 (by simp) q3 q4.symm;exact q6 (this▸hn)
    have src: ∀(i:Nat) (e':List AV),es'[i]? =some e'→ ∃e,es[off+i]? =some e∧e.length=k.n∧e'.length=k.n:=by
     intro i e' hi;have hlt:=aK hi;have he:es[off+i]? =some (es[off+i]'(by omega)):=zB (by omega);exact⟨_,he,h3 _ _ he,by rw [hlen i _ e' he hi];exact h3 _ _ he⟩
    have cell: ∀(i:Nat) (e':List AV) (c:Nat) (x':AV),es'[i]? =some e'→e'[c]? =some x'→ ∃e x u,es[off+i]? =some e∧e[c]? =some x∧vs[k.base+((off+i)*k.n+c)]? =some u∧u.oneCell'=true∧aQ J (Own h J) w x u:=by
     intro i e' c x' hi hx;obtain⟨e,he,l1,l2⟩:=src i e' hi;have hcl:=aK hx;have hxe:e[c]? =some (e[c]'(by omega)):=zB (by omega);obtain⟨u,p1,p2,p3⟩:=h6 _ _ _ _ he hxe;exact⟨e,_,u,he,hxe,p1,p2,p3⟩
    refine aQ.ro es' ⟨k.r,k.base+off*k.n,none⟩ k.n cap (fun i c=>(vs[k.base+((off+i)*k.n+c)]?).getD undef) (by omega) h1 (.inr ⟨hh.lt b k hk,hnot⟩) (fun i e' hi=>by obtain⟨e,_,_,l2⟩:=src i e' hi;exact l2) ?_ ?_ ?_
    ·intro i e' c x' hi hx;obtain⟨e,x,u,q1,q2,q3,q4,q5⟩:=cell i e' c x' hi hx;rw [mM,cell_of_heap h4,show k.base+off*k.n+(i*k.n+c)=k.base+((off+i)*k.n+c) by rw [Nat.add_mul];omega,q3];rfl
    ·intro i e' c x' hi hx;obtain⟨e,x,u,q1,q2,q3,q4,q5⟩:=cell i e' c x' hi hx;rw [q3];exact q4
    ·intro i e' c x' hi hx;obtain⟨e,x,u,q1,q2,q3,q4,q5⟩:=cell i e' c x' hi hx;rw [q3];exact ih i e e' c x x' q1 hi q2 hx q5
 | agg cs cs' hl hc ih=>
  intro v hv
  cases hv with
  | agg _ vs hl1 h1 hr=>
   refine .agg cs' vs (by omega) h1 fun i x' v hx' hv=> ?_;have hx:cs[i]? =some (cs[i]'(by have:=aK hx';omega)):=zB _;exact ih i _ x' hx hx' (hr i _ v hx hv)
 | tup cs cs' hl hc ih=>
  intro v hv
  cases hv with
  | tup _ vs hl1 hr=>
   refine .tup cs' vs (by omega) fun i x' v hx' hv=> ?_;have hx:cs[i]? =some (cs[i]'(by have:=aK hx';omega)):=zB _;exact ih i _ x' hx hx' (hr i _ v hx hv)
inductive CB (ks:List Nat)(h:ak):List AV→List AV→Prop
 | nil:CB ks h [] []
 | cons {x x':AV} {xs xs':List AV} (hx:gq ks h x x') (hs:CB ks h xs xs'):CB ks h (x::xs) (x'::xs')
theorem CB.get {ks:List Nat} {h:ak} {xs xs':List AV} (f:CB ks h xs xs'):xs'.length=xs.length∧ ∀(i:Nat) (x x':AV),xs[i]? =some x→xs'[i]? =some x'→gq ks h x x':=by
 induction f with
 | nil=>exact⟨rfl,by simp⟩
 | cons hx hs ih=>
  refine⟨by simp [ih.1],fun i x x' h1 h2=> ?_⟩
  cases i with
  | zero=>simp at h1 h2;subst h1;subst h2;exact hx
  | succ i=>exact ih.2 i x x' (by simpa using h1) (by simpa using h2)
theorem gq.agg' {ks:List Nat} {h:ak} {xs xs':List AV} (f:CB ks h xs xs'):gq ks h (.agg xs) (.agg xs'):= .agg _ _ f.get.1 f.get.2
theorem gq.ownD {ks:List Nat} {b m off len:Nat} {h:ak} {es es':List (List AV)} (hb:h[b]? =some (.cells m es))(hn:b∈ks)(hl:off+len≤es.length)(he:es'=(es.drop off).take len):gq ks h (.own b off len) (.ro es'):=by
 have hget: ∀(i:Nat) (e e':List AV),es[off+i]? =some e→es'[i]? =some e'→e=e':=by
  intro i e e' h1 h2;subst he;rw [List.getElem?_take] at h2;split at h2
  ·rw [List.getElem?_drop,h1] at h2;exact Option.some.inj h2
  ·cases h2
 refine .own b off len m es es' hn hb hl (by subst he;simp;omega) (fun i e e' h1 h2=>by rw [hget i e e' h1 h2]) ?_;intro i e e' c x x' h1 h2 h3 h4;obtain rfl:=hget i e e' h1 h2;rw [h3] at h4;obtain rfl:=Option.some.inj h4;exact .same x
theorem gq.all {ks:List Nat} {b m:Nat} {h:ak} {es:List (List AV)} (hb:h[b]? =some (.cells m es))(hn:b∈ks):gq ks h (.own b 0 es.length) (.ro es):=gq.ownD hb hn (by simp) (by simp)
theorem gq.rows {ks:List Nat} {h:ak} {b:Nat} {cs:List AV} {rows:List (List (List AV))} (hb:h[b]? =some (.cells 1 (cs.map fun c=>[c])))(hn:b∈ks)(hl:cs.length=rows.length)
  (hc: ∀(k:Nat) (c:AV) (r:List (List AV)),cs[k]? =some c→rows[k]? =some r→gq ks h c (.ro r)):gq ks h (.own b 0 cs.length) (.ro (rows.map fun r=>[.ro r])):=by
 refine .own b 0 _ 1 _ _ hn hb (by simp) (by simp [hl]) (fun i e e' he he'=> ?_) (fun i e e' k y y' he he' hy hy'=> ?_)
 ·rw [List.getElem?_map,Option.map_eq_some_iff] at he he';obtain⟨_,_,rfl⟩:=he;obtain⟨_,_,rfl⟩:=he';rfl
 ·rw [Nat.zero_add] at he;rw [List.getElem?_map,Option.map_eq_some_iff] at he he';obtain⟨c,hc1,rfl⟩:=he;obtain⟨r,hr,rfl⟩:=he'
  cases k with
  | zero=>
   obtain rfl:=Option.some.inj hy;obtain rfl:=Option.some.inj hy';exact hc i c r hc1 hr
  | succ k=>simp at hy
theorem af.lend {P:Program} {gl:aR} {f:FuncId} {args args':List AV} {h:ak} {R:AV→ak→Prop} (ks:List Nat)(hf:CB ks h args args')
  (c:af P gl f args' (killL h ks) R):af P gl f args h R:=by
 refine⟨c.1,fun J w vs hh hv=> ?_⟩;obtain⟨hk,ev⟩:=hh.killL ks;have hv':bX J (Own (killL h ks) J) w args' vs:=by
  obtain⟨hl,hg⟩:=hf.get;refine⟨by rw [hl];exact hv.1,fun i x v hx hv'=> ?_⟩;obtain⟨y,hy⟩: ∃y,args[i]? =some y:=⟨_,zB (by have:=aK hx;omega)⟩;exact gq.sound hh (hg i y x hy hx) (hv.2 i y v hy hv')
 refine Calls.mono' (c.2 J w vs hk hv') ?_;rintro e w' ⟨x,v,J',h',p1,p2,p3,p4,p5⟩;exact⟨x,v,J',h',p1,p2,p3,ev.trans p4,p5⟩
theorem aW.freeze {P:Program} {gl:aR} {N:Nat} {c:Code} {Q:dN} {fr fr':aP} {h:ak} (ks:List Nat)(hf: ∀t,gq ks h (fr t) (fr' t))(k:aW P gl N c Q fr' (killL h ks)):aW P gl N c Q fr h:=by
 intro J a w r;obtain⟨hk,ev⟩:=r.heap.killL ks;have r':qB gl N J fr' (killL h ks) a w:=⟨r.size,r.defers,fun t=>gq.sound r.heap (hf t) (r.tmps t),hk⟩;exact wp_mono (k J a w r') fun _ _ _ hl=>oK ev hl
theorem jk: ∀(ks:List Nat) (h g:ak),(∀b∈ks,h.length≤b)→ ∃g',killL (h++g) ks=h++g'
 | [],h,g,_=>⟨g,rfl⟩
 | b::ks,h,g,hb=>by
  rw [killL,List.set_append_right _ _ (hb b List.mem_cons_self)];exact jk ks h _ fun c hc=>hb c (List.mem_cons_of_mem _ hc)
theorem Ls.lend {n lo:Nat} {h:ak} {x:AV} {es:List (List AV)} (r:Ls n lo h x es): ∃ks,(∀b∈ks,lo≤b∧ ∃off len,x= .own b off len)∧gq ks h x (.ro es):=by
 rcases r.1 with⟨rfl,rfl⟩ | ⟨b,rfl,hl,hb⟩
 ·exact⟨[],by simp,.nil⟩
 ·exact⟨[b],by simp [hl],.all hb (by simp)⟩
theorem gq.more {ks ks':List Nat} {h:ak} {x x':AV} (f:gq ks h x x')(hs: ∀b∈ks,b∈ks'):gq ks' h x x':=by
 induction f with
 | same x=>exact .same x
 | nil=>exact .nil
 | e0=>exact .e0
 | own b off len m es es' hn hb hl hl' hlen hc ih=>exact .own b off len m es es' (hs b hn) hb hl hl' hlen ih
 | agg cs cs' hl hc ih=>exact .agg cs cs' hl ih
 | tup cs cs' hl hc ih=>exact .tup cs cs' hl ih
theorem gu.lend {n lo:Nat} {h:ak} {x:AV} {cs:List AV} {rows:List (List (List AV))} (q:gu n lo h x cs rows): ∃ks,(∀b∈ks,lo≤b)∧gq ks h x (.ro (rows.map fun r=>[.ro r])):=by
 rcases q.out.1 with⟨rfl,e⟩ | ⟨b,rfl,hl,hb⟩
 ·have:rows=[]:=by have:=q.len;simp at e;subst e;exact List.length_eq_zero_iff.1 this.symm
  subst this;exact⟨[],by simp,.nil⟩
 ·obtain⟨bs,hbs⟩: ∃bs,bs=cs.filterMap fun c=>match c with | .own b _ _=>some b | _=>none:=⟨_,rfl⟩
  have hin: ∀b off len,AV.own b off len∈cs→b∈bs:=fun b off len hm=>by rw [hbs];exact List.mem_filterMap.2 ⟨_,hm,rfl⟩
  refine⟨b::bs,fun c hc=> ?_,?_⟩
  ·rcases List.mem_cons.1 hc with rfl | hc
   ·exact hl
   ·rw [hbs] at hc;obtain⟨d,hd,hd2⟩:=List.mem_filterMap.1 hc;split at hd2
    ·rename_i b' off len;obtain rfl:=Option.some.inj hd2;obtain⟨k,hk⟩:=List.getElem?_of_mem hd;have hkl:=(zA.1 hk).1;have hr:rows[k]? =some (rows[k]'(by rw [←q.len];exact hkl)):=zB _;exact ((q.each k _ _ hk hr).2 _ _ _ rfl).1
    ·cases hd2
  ·have e:(List.map (fun c=>[c]) cs).length=cs.length:=by simp
   rw [e];refine gq.rows hb (by simp) q.len fun k c r h1 h2=> ?_;obtain⟨r1,_⟩:=q.each k c r h1 h2;rcases r1 with⟨rfl | ⟨b',off,all,rfl,hb',hl',hg⟩,_⟩ | ⟨rfl,rfl | rfl⟩
   ·exact .same _
   ·refine gq.ownD hb' (List.mem_cons_of_mem _ (hin _ _ _ (zF h1))) (by omega) ?_;refine List.ext_getElem? fun i=> ?_;rcases zN i r.length with hi | hi
    ·rw [List.getElem?_take_of_lt hi,List.getElem?_drop,hg i hi]
    ·rw [List.getElem?_eq_none hi,List.getElem?_eq_none (by simp;omega)]
   ·exact .nil
   ·exact .e0
def Rn (x:AV)(es:List (List AV)):Prop:=x= .ro es∨(x= .nil∧es=[])
theorem Rn.nil:Rn .nil []:= .inr ⟨rfl,rfl⟩
theorem Rn.ro (es:List (List AV)):Rn (.ro es) es:= .inl rfl
theorem Rn.rs {x:AV} {es:List (List AV)} {n:Nat} (r:Rn x es)(h:ak)(hn: ∀e∈es,e.length=n):Rs n h x es:=by
 rcases r with rfl | ⟨rfl,rfl⟩
 ·exact Rs.ro hn
 ·exact Rs.nil
end Go.Abs
end
section
namespace Go.Abs
open Go
section
variable {α : Type} (enc : α → AV)
def sM (m:List (List UInt8×α)):List (AV×AV):=m.map fun p=>(.str p.1,enc p.2)
def iW (m:List (List UInt8×α))(t:List UInt8):Option α:=(m.find? fun p=>t==p.1).map (·.2)
def sJ:List (List UInt8×α)→List UInt8→α→List (List UInt8×α)
 | [],t,v=>[(t,v)]
 | p::m,t,v=>if t==p.1 then (t,v)::m else p::sJ m t v
theorem kP (m:List (List UInt8×α))(t:List UInt8):iy (sM enc m) (.str t)=(iW m t).map enc:=by
 induction m with
 | nil=>rfl
 | cons p m ih=>
  show iy ((.str p.1,enc p.2)::sM enc m) (.str t)=_;rw [M4,iW,List.find?_cons];have e:ku (ah (.str t)) (ah (.str p.1))=(t==p.1):=by simp [ah,ku,nJ]
  show (if ku (ah (.str t)) (ah (.str p.1))=true then _ else _)=_;rw [e];cases h:(t==p.1)
  ·simp only [Bool.false_eq_true,if_false];exact ih
  ·simp
theorem yf (m:List (List UInt8×α))(t:List UInt8)(v:α):w9 (sM enc m) (.str t) (enc v)=sM enc (sJ m t v):=by
 induction m with
 | nil=>rfl
 | cons p m ih=>
  show w9 ((.str p.1,enc p.2)::sM enc m) (.str t) (enc v)=_;rw [P7,sJ];have e:ku (ah (.str t)) (ah (.str p.1))=(t==p.1):=by simp [ah,ku,nJ]
  show (if ku (ah (.str t)) (ah (.str p.1))=true then _ else _)=_;rw [e];cases h:(t==p.1)
  ·simp only [Bool.false_eq_true,if_false];rw [ih];rfl
  ·simp [sM]
theorem zV (m:List (List UInt8×α))(t u:List UInt8)(v:α):iW (sJ m t v) u=if u=t then some v else iW m u:=by
 induction m with
 | nil=>
  by_cases h:u=t
  ·subst h;simp [sJ,iW]
  ·simp [sJ,iW,h]
 | cons p m ih=>
  rw [sJ];by_cases h:t=p.1
  ·subst h;rw [if_pos (by simp)];by_cases h2:u=p.1
   ·subst h2;simp [iW]
   ·simp [iW,h2]
  ·rw [if_neg (by simpa using h)];by_cases h2:u=p.1
   ·subst h2;rw [if_neg (fun e=>h e.symm)];simp [iW]
   ·have: ∀z:List (List UInt8×α),iW (p::z) u=iW z u:=fun z=>by simp [iW,h2]
    rw [this,this,ih]
def wN (m:List (List UInt8×Bool))(t:List UInt8):Bool:=(iW m t).getD false
theorem Ho (m:List (List UInt8×Bool))(t u:List UInt8):wN (sJ m t true) u=(decide (u=t) || wN m u):=by
 rw [wN,zV];by_cases h:u=t <;> simp [h,wN]
theorem Ac {m:List (List UInt8×α)} {p:AV×AV} (h:p∈sM enc m): ∃q∈m,p=(.str q.1,enc q.2):=by
 obtain⟨q,hq,rfl⟩:=List.mem_map.1 h;exact⟨q,hq,rfl⟩
end
@[simp] theorem VC (b:Bool):ah (.bool b)=[.bool b]:=rfl
@[simp] theorem Wl (k:IntKind) (n:Int):ah (.int k n)=[.int k n]:=rfl
@[simp] theorem Wq (s:List UInt8):ah (.str s)=[.str s]:=rfl
@[simp] theorem Wj (l:List AV):ah (.agg l)=l:=rfl
@[simp] theorem Xz (l:List (List AV)):ah (.ro l)=[.ro l]:=rfl
@[simp] theorem Wn:ah .nil=[.nil]:=rfl
@[simp] theorem Xy:ah .e0=[.e0]:=rfl
@[simp] theorem Wo (b o l:Nat):ah (.own b o l)=[.own b o l]:=rfl
@[simp] theorem Wm (b:Nat):ah (.map b)=[.map b]:=rfl
@[simp] theorem Wp (b i c:Nat):ah (.ptr b i c)=[.ptr b i c]:=rfl
@[simp] theorem Xv (b:Bool):(AV.bool b).solid=true:=rfl
@[simp] theorem Ya (k:IntKind) (n:Int):(AV.int k n).solid=true:=rfl
@[simp] theorem Yf (s:List UInt8):(AV.str s).solid=true:=rfl
@[simp] theorem X9 (l:List AV):(AV.agg l).solid=true:=rfl
@[simp] theorem Ze (l:List (List AV)):(AV.ro l).solid=true:=rfl
@[simp] theorem Yc:AV.nil.solid=true:=rfl
@[simp] theorem Zd:AV.e0.solid=true:=rfl
@[simp] theorem Yd (b o l:Nat):(AV.own b o l).solid=true:=rfl
@[simp] theorem Yb (b:Nat):(AV.map b).solid=true:=rfl
@[simp] theorem Ye (b i c:Nat):(AV.ptr b i c).solid=true:=rfl
end Go.Abs
end
