/- Part 1 of the lemmas below the statements of this seat: AbsSound. -/
import Derived.Calls
import Derived.Laws.AppendOwn
import Derived.Orders
import Derived.Laws.Rows
import Derived.Laws.StructEq
import Derived.Laws.Slices
import Derived.Laws.Cells
import Derived.Laws.Tables
import Derived.Laws.BytesString
import Derived.KernelRfl
set_option linter.unusedSectionVars false
set_option linter.unusedVariables false
set_option linter.unusedSimpArgs false
set_option linter.unnecessarySimpa false
set_option maxRecDepth 100000
namespace Go
theorem zA {α : Type _} {i : Nat} {a : α} {l : List α} : l[i]? = some a ↔ ∃ h : i < l.length, l[i] = a:=List.getElem?_eq_some_iff
theorem zB {α : Type _} {l : List α} {i : Nat} (h : i < l.length) : l[i]? = some l[i]:=List.getElem?_eq_getElem h
theorem zC {α : Type _} {l₁ l₂ : List α} {i : Nat} (h : i < l₁.length) : (l₁ ++ l₂)[i]? = l₁[i]?:=List.getElem?_append_left h
theorem zD {α : Type _} {l₁ l₂ : List α} {i : Nat} (h : l₁.length ≤ i) : (l₁ ++ l₂)[i]? = l₂[i - l₁.length]?:=List.getElem?_append_right h
theorem zF {α : Type _} {l : List α} {i : Nat} {a : α} (h : l[i]? = some a) : a ∈ l:=List.mem_of_getElem? h
theorem zG {α : Type _} {i : Nat} {l : List α} (h : l.length ≤ i) : l.take i = l:=List.take_of_length_le h
theorem zH {α : Type _} {l : List α} {i : Nat} (h : l.length ≤ i) : l.drop i = []:=List.drop_eq_nil_of_le h
theorem zI {α : Type _} {l : List α} {i : Nat} {a : α} (h : i < l.length) : (l.set i a)[i]? = some a:=List.getElem?_set_self h
theorem zJ {α : Type _} {l : List α} {i j : Nat} (h : i ≠ j) {a : α} : (l.set i a)[j]? = l[j]?:=List.getElem?_set_ne h
theorem zK {α : Type _} (a b c : List α) : a ++ b ++ c = a ++ (b ++ c):=List.append_assoc a b c
theorem zM {α : Type _} {l : List α} {i : Nat} : l.take (i + 1) = l.take i ++ l[i]?.toList:=List.take_add_one
theorem zN (a b : Nat) : a < b ∨ a ≥ b:=Nat.lt_or_ge a b
end Go
section
section
namespace Go.Abs
open Go
inductive AV where
 | bool (b:Bool)
 | int (k:IntKind) (n:Int)
 | str (s:List UInt8)
 | lit (x:Value)
 | agg (cs:List AV)
 | tup (cs:List AV)
 | nil
 | e0
 | ro (es:List (List AV))
 | rop (es:List (List AV)) (i c:Nat)
 | own (b off len:Nat)
 | ptr (b i c:Nat)
 | fn (f:Fn) (first caps:List AV)
 | map (b:Nat)
 | obj (b:Nat)
 | iface (t:TypeId) (x:AV)
 | opt (g:Bool) (x:AV)
 | junk
 deriving Inhabited
structure dH where
 r:Nat
 base:Nat
 n:Nat
 cap:Nat
inductive bU where
 | dead
 | cells (n:Nat) (es:List (List AV))
 | map (kvs:List (AV×AV))
 | iter (m n:Nat) (seen:List Nat)
 | pin (x:AV)
 | raw (o:Obj)
abbrev ae:=List bU
abbrev aH:=Nat→AV
theorem add_block (a:Addr)(n:Nat):(a.add n).block=a.block:=by unfold Addr.add;split <;> rfl
inductive aJ (J:List dH)(O:Nat→Prop)(w:World):AV→Value→Prop
 | bool (b:Bool):aJ J O w (.bool b) (.bool b)
 | int (k:IntKind) (n:Int):aJ J O w (.int k n) (.int k n)
 | str (s:List UInt8):aJ J O w (.str s) (.string ⟨s.toArray⟩)
 | lit (x:Value) (h:x.oneCell'=true):aJ J O w (.lit x) x
 | agg (cs:List AV) (vs:List Value) (hl:cs.length=vs.length) (h1: ∀v∈vs,v.oneCell'=true)
   (h: ∀(i:Nat) (x:AV) (v:Value),cs[i]? =some x→vs[i]? =some v→aJ J O w x v):aJ J O w (.agg cs) (.agg vs.toArray)
 | tup (cs:List AV) (vs:List Value) (hl:cs.length=vs.length)
   (h: ∀(i:Nat) (x:AV) (v:Value),cs[i]? =some x→vs[i]? =some v→aJ J O w x v):aJ J O w (.tup cs) (.tuple vs.toArray)
 | nil:aJ J O w .nil (.slice none 0 0)
 | e0 (a:Option Addr):aJ J O w .e0 (.slice a 0 0)
 | roNil:aJ J O w (.ro []) (.slice none 0 0)
 | ro (es:List (List AV)) (a:Addr) (n cap:Nat) (f:Nat→Nat→Value) (hcap:es.length≤cap) (hn:0<n)
   (hO:es=[]∨(a.block<w.heap.size∧ ¬O a.block)) (hl: ∀(i:Nat) (e:List AV),es[i]? =some e→e.length=n)
   (hc: ∀(i:Nat) (e:List AV) (c:Nat) (x:AV),es[i]? =some e→e[c]? =some x→w.cell? (a.add (i*n+c))=some (f i c))
   (h1: ∀(i:Nat) (e:List AV) (c:Nat) (x:AV),es[i]? =some e→e[c]? =some x→(f i c).oneCell'=true)
   (h: ∀(i:Nat) (e:List AV) (c:Nat) (x:AV),es[i]? =some e→e[c]? =some x→aJ J O w x (f i c)):aJ J O w (.ro es) (.slice (some a) es.length cap)
 | rop (es:List (List AV)) (i₀ c₀:Nat) (a:Addr) (n:Nat) (f:Nat→Nat→Value) (hn:0<n)
   (hO:es=[]∨(a.block<w.heap.size∧ ¬O a.block)) (hl: ∀(i:Nat) (e:List AV),es[i]? =some e→e.length=n)
   (hc: ∀(i:Nat) (e:List AV) (c:Nat) (x:AV),es[i]? =some e→e[c]? =some x→w.cell? (a.add (i*n+c))=some (f i c))
   (h1: ∀(i:Nat) (e:List AV) (c:Nat) (x:AV),es[i]? =some e→e[c]? =some x→(f i c).oneCell'=true)
   (h: ∀(i:Nat) (e:List AV) (c:Nat) (x:AV),es[i]? =some e→e[c]? =some x→aJ J O w x (f i c)):aJ J O w (.rop es i₀ c₀) (.pointer (some (a.add (i₀*n+c₀))))
 | own (b off len:Nat) (k:dH) (a:Addr) (cap:Nat) (hb:J[b]? =some k) (ha:0<cap→a=⟨k.r,k.base+off*k.n,none⟩)
   (hlen:len≤cap) (hcap:off+cap≤k.cap):aJ J O w (.own b off len) (.slice (some a) len cap)
 | ptr (b i c:Nat) (k:dH) (hb:J[b]? =some k):aJ J O w (.ptr b i c) (.pointer (some ⟨k.r,k.base+(i*k.n+c),none⟩))
 | fn (f:Fn) (first caps:List AV) (vf vc:List Value) (hf:first.length=vf.length) (hc:caps.length=vc.length)
   (h1: ∀(i:Nat) (x:AV) (v:Value),first[i]? =some x→vf[i]? =some v→aJ J O w x v)
   (h2: ∀(i:Nat) (x:AV) (v:Value),caps[i]? =some x→vc[i]? =some v→aJ J O w x v):aJ J O w (.fn f first caps) (.func f vf.toArray vc.toArray)
 | map (b:Nat) (k:dH) (hb:J[b]? =some k):aJ J O w (.map b) (.map (some k.r))
 | obj (b:Nat) (k:dH) (hb:J[b]? =some k):aJ J O w (.obj b) (.pointer (some ⟨k.r,0,none⟩))
 | iface (t:TypeId) (x:AV) (v:Value) (h:aJ J O w x v):aJ J O w (.iface t x) (.iface t v)
 | opt (g:Bool) (x:AV) (v:Value) (h:g=true→aJ J O w x v) (h0:g=false→v=undef):aJ J O w (.opt g x) v
 | junk (v:Value):aJ J O w .junk v
theorem jY {α:Type} {J J':List α} {t:List α} (h:J'=J++t) {b:Nat} {k:α} (hb:J[b]? =some k):J'[b]? =some k:=by
 subst h;have hlt:b<J.length:=by
  rcases zN b J.length with h | h
  ·exact h
  ·simp [List.getElem?_eq_none h] at hb
 rw [zC hlt];exact hb
theorem aJ.mono {J J':List dH} {O O':Nat→Prop} {w w':World} (hJ: ∃t,J'=J++t)(hs:w.heap.size≤w'.heap.size)
  (hk: ∀r,r<w.heap.size→ ¬O r→w'.heap[r]? =w.heap[r]? ∧ ¬O' r) {x:AV} {v:Value} (h:aJ J O w x v):aJ J' O' w' x v:=by
 obtain⟨t,hJ⟩:=hJ
 induction h with
 | bool b=>exact .bool b
 | int k n=>exact .int k n
 | str s=>exact .str s
 | lit x h=>exact .lit x h
 | agg cs vs hl h1 _ ih=>exact .agg cs vs hl h1 ih
 | tup cs vs hl _ ih=>exact .tup cs vs hl ih
 | nil=>exact .nil
 | e0 a=>exact .e0 a
 | roNil=>exact .roNil
 | ro es a n cap f hcap hn hO hl hc h1 _ ih=>
  refine .ro es a n cap f hcap hn ?_ hl ?_ h1 ih
  ·exact hO.imp id fun ⟨p,q⟩=>⟨Nat.lt_of_lt_of_le p hs,(hk _ p q).2⟩
  ·intro i e c x hi hx;have:=hc i e c x hi hx;rcases hO with rfl | ⟨p,q⟩
   ·simp at hi
   ·rw [←this];exact World.cell?_of_block (by rw [add_block];exact (hk _ p q).1)
 | rop es i₀ c₀ a n f hn hO hl hc h1 _ ih=>
  refine .rop es i₀ c₀ a n f hn ?_ hl ?_ h1 ih
  ·exact hO.imp id fun ⟨p,q⟩=>⟨Nat.lt_of_lt_of_le p hs,(hk _ p q).2⟩
  ·intro i e c x hi hx;have:=hc i e c x hi hx;rcases hO with rfl | ⟨p,q⟩
   ·simp at hi
   ·rw [←this];exact World.cell?_of_block (by rw [add_block];exact (hk _ p q).1)
 | own b off len k a cap hb ha hlen hcap=>exact .own b off len k a cap (jY hJ hb) ha hlen hcap
 | ptr b i c k hb=>exact .ptr b i c k (jY hJ hb)
 | fn f first caps vf vc hf hc _ _ ih1 ih2=>exact .fn f first caps vf vc hf hc ih1 ih2
 | map b k hb=>exact .map b k (jY hJ hb)
 | obj b k hb=>exact .obj b k (jY hJ hb)
 | iface t x v _ ih=>exact .iface t x v ih
 | opt g x v _ h0 ih=>exact .opt g x v ih h0
 | junk v=>exact .junk v
def Own (h:ae)(J:List dH)(r:Nat):Prop:= ∃(b:Nat) (k:dH) (o:bU),J[b]? =some k∧h[b]? =some o∧o≠ .dead∧k.r=r
def ug (J:List dH)(O:Nat→Prop)(w:World)(k:dH):bU→Prop
 | .dead=>True
 | .cells n es=>k.n=n∧0<k.n∧es.length≤k.cap∧(∀(i:Nat) (e:List AV),es[i]? =some e→e.length=k.n)∧ ∃(vs:Array Value) (T:TypeId),w.heap[k.r]? =some (.cells vs T (0,0))∧
   k.base+k.cap*k.n≤vs.size∧ ∀(i:Nat) (e:List AV) (c:Nat) (x:AV),es[i]? =some e→e[c]? =some x→ ∃v:Value,vs[k.base+(i*k.n+c)]? =some v∧v.oneCell'=true∧aJ J O w x v
 | .map kvs=> ∃(es:Array MapEntry) (clock:Nat),w.heap[k.r]? =some (.map es clock)∧es.size=kvs.length∧
   (∀(i:Nat) (e:MapEntry) (p:AV×AV),es[i]? =some e→kvs[i]? =some p→aJ J O w p.1 e.key∧aJ J O w p.2 e.val)∧clock=es.size∧ ∀(i:Nat) (e:MapEntry),es[i]? =some e→e.born=i
 | .iter m n seen=> ∃k':dH,J[m]? =some k'∧w.heap[k.r]? =some (.mapIter (some k'.r) n seen.toArray n)
 | .pin x=> ∃(v:Value) (T:TypeId),w.heap[k.r]? =some (.cells #[v] T (0,0))∧aJ J O w x v
 | .raw o=>w.heap[k.r]? =some o
abbrev aM:=Nat→Option (List AV)
structure bI (gl:aM)(h:ae)(J:List dH)(w:World):Prop where
 len:J.length=h.length
 inj: ∀(b b':Nat) (k k':dH) (o o':bU),J[b]? =some k→J[b']? =some k'→h[b]? =some o→h[b']? =some o'→o≠ .dead→o'≠ .dead→k.r=k'.r→b=b'
 lt: ∀(b:Nat) (k:dH),J[b]? =some k→k.r<w.heap.size
 obj: ∀(b:Nat) (k:dH) (o:bU),J[b]? =some k→h[b]? =some o→ug J (Own h J) w k o
 glob: ∀(g:Nat) (cs:List AV),gl g=some cs→aJ J (Own h J) w (.rop [cs] 0 0) (.pointer (some ⟨g,0,none⟩))
structure ik (h:ae)(J:List dH)(w:World)(h':ae)(J':List dH)(w':World):Prop where
 pre: ∃t,J'=J++t
 size:w.heap.size≤w'.heap.size
 keep: ∀r,r<w.heap.size→ ¬Own h J r→w'.heap[r]? =w.heap[r]? ∧ ¬Own h' J' r
 os:w'.os=w.os
 tape:w'.tape=w.tape
 output:w'.output=w.output
theorem ik.refl (h:ae)(J:List dH)(w:World):ik h J w h J w:=⟨⟨[],by simp⟩,Nat.le_refl _,fun _ _ n=>⟨rfl,n⟩,rfl,rfl,rfl⟩
theorem ik.trans {h h' h'':ae} {J J' J'':List dH} {w w' w'':World} (a:ik h J w h' J' w')(b:ik h' J' w' h'' J'' w''):ik h J w h'' J'' w'':=by
 obtain⟨t,ht⟩:=a.pre;obtain⟨t',ht'⟩:=b.pre;refine⟨⟨t++t',by rw [ht',ht,zK]⟩,Nat.le_trans a.size b.size,fun r hr hn=> ?_,b.os.trans a.os,b.tape.trans a.tape,b.output.trans a.output⟩;obtain⟨h1,h2⟩:=a.keep r hr hn;obtain⟨h3,h4⟩:=b.keep r (Nat.lt_of_lt_of_le hr a.size) h2;exact⟨h3.trans h1,h4⟩
theorem aJ.evo {h h':ae} {J J':List dH} {w w':World} (e:ik h J w h' J' w') {x:AV} {v:Value} (hv:aJ J (Own h J) w x v):aJ J' (Own h' J') w' x v:=
 hv.mono e.pre e.size e.keep
def bC (J:List dH)(O:Nat→Prop)(w:World)(xs:List AV)(vs:List Value):Prop:=
 xs.length=vs.length∧ ∀(i:Nat) (x:AV) (v:Value),xs[i]? =some x→vs[i]? =some v→aJ J O w x v
theorem bC.nil {J:List dH} {O:Nat→Prop} {w:World}:bC J O w [] []:=⟨rfl,by simp⟩
theorem bC.cons {J:List dH} {O:Nat→Prop} {w:World} {x:AV} {v:Value} {xs:List AV} {vs:List Value} (h:aJ J O w x v)(hs:bC J O w xs vs):bC J O w (x::xs) (v::vs):=by
 refine⟨by simp [hs.1],fun i y u hy hu=> ?_⟩
 cases i with
 | zero=>simp at hy hu;subst hy;subst hu;exact h
 | succ i=>simp at hy hu;exact hs.2 i y u hy hu
theorem bC.append {J:List dH} {O:Nat→Prop} {w:World} {xs ys:List AV} {vs us:List Value} (h:bC J O w xs vs)(hs:bC J O w ys us):bC J O w (xs++ys) (vs++us):=by
 refine⟨by simp [h.1,hs.1],fun i y u hy hu=> ?_⟩;rcases zN i xs.length with hi | hi
 ·rw [zC hi] at hy;rw [zC (by rw [←h.1];exact hi)] at hu;exact h.2 i y u hy hu
 ·rw [zD hi] at hy;rw [zD (by rw [←h.1];exact hi),←h.1] at hu;exact hs.2 _ y u hy hu
def aa (P:Program)(gl:aM)(f:FuncId)(args:List AV)(h:ae)(R:AV→ae→Prop):Prop:=
 (∃fn,P.funcs[f]? =some fn∧fn.body.isSome=true∧(fn.name== "runtime.NumGoroutine")=false)∧
 ∀(J:List dH) (w:World) (vs:List Value),bI gl h J w→bC J (Own h J) w args vs→
  Calls P f vs.toArray w fun e w'=> ∃x v J' h',e= .returned v∧bI gl h' J' w'∧aJ J' (Own h' J') w' x v∧ik h J w h' J' w'∧R x h'
theorem Calls.mono' {P:Program} {f:FuncId} {args:Array Value} {w:World} {R R':Ending→World→Prop} (h:Calls P f args w R)(hr: ∀e w',R e w'→R' e w'):Calls P f args w R':=
 fun cs=>let ⟨e,w',fr,r,s⟩:=h cs;⟨e,w',fr,hr _ _ r,s⟩
theorem aa.mono {P:Program} {gl:aM} {f:FuncId} {args:List AV} {h:ae} {R R':AV→ae→Prop} (c:aa P gl f args h R)(hr: ∀x h',R x h'→R' x h'):aa P gl f args h R':=
 ⟨c.1,fun J w vs hh hv=>Calls.mono' (c.2 J w vs hh hv) fun _ _ ⟨x,v,J',h',p1,p2,p3,p4,p5⟩=>⟨x,v,J',h',p1,p2,p3,p4,hr _ _ p5⟩⟩
structure nM (gl:aM)(N:Nat)(J:List dH)(fr:aH)(h:ae)(a:Act)(w:World):Prop where
 size:a.tmps.size=N
 defers:a.defers=[]
 tmps: ∀t,aJ J (Own h J) w (fr t) (a.tmps.getD t undef)
 heap:bI gl h J w
abbrev bZ:=Exit→aH→ae→Prop
def lift (gl:aM)(N:Nat)(h:ae)(J:List dH)(w:World)(Q:bZ):Exit→Act→World→Prop:=
 fun e a' w'=> ∃J' fr' h',nM gl N J' fr' h' a' w'∧ik h J w h' J' w'∧Q e fr' h'
def aT (P:Program)(gl:aM)(N:Nat)(c:Code)(Q:bZ)(fr:aH)(h:ae):Prop:=
 ∀J a w,nM gl N J fr h a w→c.wp P (lift gl N h J w Q) a w
def gF (K:aH→ae→Prop)(Q:bZ):bZ
 | .normal,fr,h=>K fr h
 | e,fr,h=>Q e fr h
def iT (id:Nat)(Q:bZ):bZ
 | .exit id',fr,h=>if id'=id then Q .normal fr h else Q (.exit id') fr h
 | e,fr,h=>Q e fr h
section
variable {P : Program} {gl : aM} {N : Nat} {Q Q' : bZ} {fr : aH} {h : ae}
theorem ML {J:List dH} {w:World} (hq: ∀e fr h,Q e fr h→Q' e fr h) {e:Exit} {a':Act} {w':World} (hl:lift gl N h J w Q e a' w'):lift gl N h J w Q' e a' w':=
 let ⟨J',fr',h',r,ev,q⟩:=hl
 ⟨J',fr',h',r,ev,hq _ _ _ q⟩
theorem aT.mono {c:Code} (hc:aT P gl N c Q fr h)(hq: ∀e fr h,Q e fr h→Q' e fr h):aT P gl N c Q' fr h:=
 fun J a w r=>wp_mono (hc J a w r) fun _ _ _ hl=>ML hq hl
theorem mr {J J':List dH} {w w':World} {h':ae} (ev:ik h J w h' J' w') {e:Exit} {a'':Act} {w'':World} (hl:lift gl N h' J' w' Q e a'' w''):lift gl N h J w Q e a'' w'':=
 let ⟨J'',fr'',h'',r,ev',q⟩:=hl
 ⟨J'',fr'',h'',r,ev.trans ev',q⟩
theorem aT.skip (hq:Q .normal fr h):aT P gl N .skip Q fr h:=fun J _ w r=>wp_skip ⟨J,fr,h,r,ik.refl _ _ _,hq⟩
theorem aT.exit {id:Nat} (hq:Q (.exit id) fr h):aT P gl N (.exit id) Q fr h:=fun J _ w r=>wp_exit ⟨J,fr,h,r,ik.refl _ _ _,hq⟩
theorem aT.ret (hq:Q .ret fr h):aT P gl N .ret Q fr h:=fun J _ w r=>wp_ret ⟨J,fr,h,r,ik.refl _ _ _,hq⟩
theorem aT.label {l:Nat} (hq:Q .normal fr h):aT P gl N (.label l) Q fr h:=fun J _ w r=>wp_label ⟨J,fr,h,r,ik.refl _ _ _,hq⟩
theorem aT.seq {x y:Code} (hx:aT P gl N x (gF (aT P gl N y Q) Q) fr h):aT P gl N (.seq x y) Q fr h:=by
 intro J a w r;refine wp_seq (wp_mono (hx J a w r) ?_);rintro e a' w' ⟨J',fr',h',r',ev,q⟩
 cases e with
 | normal=>exact wp_mono (q J' a' w' r') fun _ _ _ hl=>mr ev hl
 | _=>exact⟨J',fr',h',r',ev,q⟩
theorem aT.block {id:Nat} {c:Code} (hc:aT P gl N c (iT id Q) fr h):aT P gl N (.block id c) Q fr h:=by
 intro J a w r;refine wp_block (wp_mono (hc J a w r) ?_);rintro e a' w' ⟨J',fr',h',r',ev,q⟩
 cases e with
 | exit id'=>
  simp only [Exit.inBlock,iT] at q ⊢;split
  ·rename_i hid;simp only [hid,if_true] at q;exact⟨J',fr',h',r',ev,q⟩
  ·rename_i hid;simp only [hid,if_false] at q;exact⟨J',fr',h',r',ev,q⟩
 | _=>exact⟨J',fr',h',r',ev,q⟩
theorem wp_loop_ghost {c:Code} {Q:Exit→Act→World→Prop} {a:Act} {w:World} (I:Nat→Act→World→Prop)(n:Nat)(h₀:I n a w)
  (round: ∀m a w,I m a w→c.wp P (Exit.then (fun a' w'=> ∃m',m'<m∧I m' a' w') Q) a w):(Code.loop c).wp P Q a w:=by
 intro b k cs;have key: ∀n a w,I n a w→ ∃e a' w',Q e a' w'∧Arrives P (lone (b.at a (.code c:: .inLoop c::k)) cs w) b k cs e a' w':=by
  intro n
  induction n using Nat.strongRecOn with
  | _ n ih=>
   intro a w hI;obtain⟨e,a₁,w₁,hq,harr⟩:=round n a w hI b (.inLoop c::k) cs
   cases e with
   | normal=>
    obtain⟨m,hlt,hI₁⟩:=hq;obtain⟨e₂,a₂,w₂,hq₂,harr₂⟩:=ih m hlt a₁ w₁ hI₁;exact⟨e₂,a₂,w₂,hq₂,.of_steps (Steps.trans harr (.one step_inLoop)) harr₂⟩
   | exit id=>exact⟨_,a₁,w₁,hq,.pass (x:= .inLoop c) rfl (fun _ _=> .inl (by simp)) harr⟩
   | goto l=>exact⟨_,a₁,w₁,hq,.pass (x:= .inLoop c) rfl (fun _ _=> .inl (by simp)) harr⟩
   | ret=>exact⟨_,a₁,w₁,hq,.pass (x:= .inLoop c) rfl (fun _ _=> .inl (by simp)) harr⟩
   | panic ch=>exact⟨_,a₁,w₁,hq,.pass (x:= .inLoop c) rfl (fun _ _=> .inl (by simp)) harr⟩
   | outgrown=>exact⟨_,a₁,w₁,hq,.pass (x:= .inLoop c) rfl (fun _ _=> .inl (by simp)) harr⟩
 obtain⟨e,a',w',hq,harr⟩:=key n a w h₀;exact⟨e,a',w',hq,.of_steps (.one step_loop) harr⟩
theorem aT.loop {c:Code} (I:Nat→aH→ae→Prop)(n:Nat)(h0:I n fr h)
  (round: ∀m fr h,I m fr h→aT P gl N c (gF (fun fr' h'=> ∃m',m'<m∧I m' fr' h') Q) fr h):aT P gl N (.loop c) Q fr h:=by
 intro J a w r;refine wp_loop_ghost (P:=P) (fun m a' w'=> ∃J' fr' h',nM gl N J' fr' h' a' w'∧ik h J w h' J' w'∧I m fr' h') n ⟨J,fr,h,r,ik.refl _ _ _,h0⟩ ?_;rintro m a' w' ⟨J',fr',h',r',ev,hI⟩;refine wp_mono (round m fr' h' hI J' a' w' r') ?_;rintro e a'' w'' ⟨J'',fr'',h'',r'',ev',q⟩
 cases e with
 | normal=>
  obtain⟨m',hlt,hI'⟩:=q;exact⟨m',hlt,J'',fr'',h'',r'',ev.trans ev',hI'⟩
 | _=>exact⟨J'',fr'',h'',r'',ev.trans ev',q⟩
theorem aT.loop_up {c:Code} (n:Nat)(I:Nat→aH→ae→Prop)(k:Nat)(hk:k≤n)(h0:I k fr h)
  (round: ∀k fr h,k≤n→I k fr h→aT P gl N c (gF (fun fr' h'=> ∃k',k<k'∧k'≤n∧I k' fr' h') Q) fr h):aT P gl N (.loop c) Q fr h:=by
 refine aT.loop (fun m fr h=> ∃k,k≤n∧m=n - k∧I k fr h) (n - k) ⟨k,hk,rfl,h0⟩ ?_;rintro m fr h ⟨k,hk,rfl,hI⟩;refine (round k fr h hk hI).mono ?_;intro e fr' h' q
 cases e with
 | normal=>
  obtain⟨k',h1,h2,h3⟩:=q;exact⟨n - k',by omega,k',h2,rfl,h3⟩
 | _=>exact q
def ve (args:List AV):aH:=fun t=>args.getD t .junk
def Xl (fr:aH):List ResultVar→Option AV
 | [.tmp t]=>some (fr t)
 | [.tmp t,.tmp u]=>some (.tup [fr t,fr u])
 | [.tmp t,.tmp u,.tmp x]=>some (.tup [fr t,fr u,fr x])
 | [.tmp t,.tmp u,.tmp x,.tmp y]=>some (.tup [fr t,fr u,fr x,fr y])
 | []=>some (.tup [])
 | _=>none
end
end Go.Abs
end
section
namespace Go.Abs
open Go
section
variable {gl : aM} {h h' : ae} {J J' : List dH} {w w' : World}
theorem ug.evo {k:dH} {o:bU} (ev:ik h J w h' J' w')(hw:w'.heap[k.r]? =w.heap[k.r]?)(ho:ug J (Own h J) w k o):ug J' (Own h' J') w' k o:=by
 cases o with
 | dead=>trivial
 | cells n es=>
  obtain⟨h0,h1,h2,h3,vs,T,h4,h5,h6⟩:=ho;refine⟨h0,h1,h2,h3,vs,T,hw.trans h4,h5,fun i e c x hi hx=> ?_⟩;obtain⟨v,p1,p2,p3⟩:=h6 i e c x hi hx;exact⟨v,p1,p2,p3.evo ev⟩
 | map kvs=>
  obtain⟨es,clock,h1,h2,h3,h4⟩:=ho;exact⟨es,clock,hw.trans h1,h2,fun i e p hi hp=>⟨(h3 i e p hi hp).1.evo ev,(h3 i e p hi hp).2.evo ev⟩,h4⟩
 | iter m n seen=>
  obtain⟨k',h1,h2⟩:=ho;obtain⟨t,ht⟩:=ev.pre;exact⟨k',jY ht h1,hw.trans h2⟩
 | pin x=>
  obtain⟨v,T,h1,h2⟩:=ho;exact⟨v,T,hw.trans h1,h2.evo ev⟩
 | raw o=>exact hw.trans ho
theorem bI.step (hh:bI gl h J w)(ev:ik h J w h' J' w')(len:J'.length=h'.length)
  (inj: ∀(b b':Nat) (k k':dH) (o o':bU),J'[b]? =some k→J'[b']? =some k'→h'[b]? =some o→h'[b']? =some o'→o≠ .dead→o'≠ .dead→k.r=k'.r→b=b')
  (lt: ∀(b:Nat) (k:dH),J'[b]? =some k→k.r<w'.heap.size)
  (objs: ∀(b:Nat) (k:dH) (o:bU),J'[b]? =some k→h'[b]? =some o→o≠ .dead→(J[b]? =some k∧h[b]? =some o∧w'.heap[k.r]? =w.heap[k.r]?)∨ug J' (Own h' J') w' k o):bI gl h' J' w':=by
 refine⟨len,inj,lt,fun b k o hb ho=> ?_,fun g cs hg=>(hh.glob g cs hg).evo ev⟩;by_cases hd:o= .dead
 ·subst hd;trivial
 ·rcases objs b k o hb ho hd with⟨h1,h2,h3⟩ | h1
  ·exact (hh.obj b k o h1 h2).evo ev h3
  ·exact h1
theorem bI.drew (hh:bI gl h J w):bI gl h J w.drew∧ik h J w h J w.drew:=by
 have ev:ik h J w h J w.drew:=⟨⟨[],by simp⟩,Nat.le_refl _,fun _ _ n=>⟨rfl,n⟩,rfl,rfl,rfl⟩;exact⟨hh.step ev hh.len hh.inj hh.lt (fun b k o h1 h2 _=> .inl ⟨h1,h2,rfl⟩),ev⟩
theorem Be {k:dH} {o:bU} (hl:J.length=h.length) {r:Nat} (hr:Own (h++[o]) (J++[k]) r):Own h J r∨(o≠ .dead∧k.r=r):=by
 obtain⟨b,k',o',h1,h2,h3,h4⟩:=hr;rcases zN b J.length with hb | hb
 ·rw [zC hb] at h1;rw [zC (by omega)] at h2;exact .inl ⟨b,k',o',h1,h2,h3,h4⟩
 ·rw [zD hb] at h1;rw [zD (by omega),←hl] at h2;rcases Nat.eq_zero_or_pos (b - J.length) with h0 | h0
  ·rw [h0] at h1 h2;simp at h1 h2;subst h1;subst h2
   exact .inr ⟨h3,h4⟩
  ·rw [List.getElem?_eq_none (by simp;omega)] at h1;cases h1
theorem bI.alloc (hh:bI gl h J w)(ob:Obj)(k:dH)(o:bU)(hk:k.r=w.heap.size)
  (ho: ∀J' O',(∀x v,aJ J (Own h J) w x v→aJ J' O' (w.alloc ob) x v)→ug J' O' (w.alloc ob) k o):
  bI gl (h++[o]) (J++[k]) (w.alloc ob)∧ik h J w (h++[o]) (J++[k]) (w.alloc ob):=by
 have hold: ∀r,r<w.heap.size→(w.alloc ob).heap[r]? =w.heap[r]? :=fun r hr=>by
  show (w.heap.push ob)[r]? =_;rw [Array.getElem?_push,if_neg (by omega)]
 have ev:ik h J w (h++[o]) (J++[k]) (w.alloc ob):=by
  refine⟨⟨[k],rfl⟩,by simp,fun r hr hn=>⟨hold r hr,fun hO=> ?_⟩,rfl,rfl,rfl⟩;rcases Be hh.len hO with h1 | ⟨_,h1⟩
  ·exact hn h1
  ·omega
 refine⟨hh.step ev (by simp [hh.len]) ?_ ?_ ?_,ev⟩
 ·intro b b' k1 k2 o1 o2 h1 h2 h3 h4 h5 h6 h7;have hlen:=hh.len;rcases zN b J.length with hb | hb <;> rcases zN b' J.length with hb' | hb'
  ·rw [zC hb] at h1;rw [zC hb'] at h2;rw [zC (by omega)] at h3 h4;exact hh.inj b b' k1 k2 o1 o2 h1 h2 h3 h4 h5 h6 h7
  ·rw [zC hb] at h1;rw [zD hb'] at h2;have:k2=k:=by
    rcases Nat.eq_zero_or_pos (b' - J.length) with h0 | h0
    ·rw [h0] at h2;simpa using h2.symm
    ·rw [List.getElem?_eq_none (by simp;omega)] at h2;cases h2
   subst this;have:=hh.lt b k1 h1;omega
  ·rw [zD hb] at h1;rw [zC hb'] at h2;have:k1=k:=by
    rcases Nat.eq_zero_or_pos (b - J.length) with h0 | h0
    ·rw [h0] at h1;simpa using h1.symm
    ·rw [List.getElem?_eq_none (by simp;omega)] at h1;cases h1
   subst this;have:=hh.lt b' k2 h2;omega
  ·have e1:b=J.length:=by
    rcases Nat.eq_zero_or_pos (b - J.length) with h0 | h0
    ·omega
    ·rw [zD hb,List.getElem?_eq_none (by simp;omega)] at h1;cases h1
   have e2:b'=J.length:=by
    rcases Nat.eq_zero_or_pos (b' - J.length) with h0 | h0
    ·omega
    ·rw [zD hb',List.getElem?_eq_none (by simp;omega)] at h2;cases h2
   omega
 ·intro b k1 h1;rcases zN b J.length with hb | hb
  ·rw [zC hb] at h1;have:=hh.lt b k1 h1;simp;omega
  ·rw [zD hb] at h1;have:k1=k:=by
    rcases Nat.eq_zero_or_pos (b - J.length) with h0 | h0
    ·rw [h0] at h1;simpa using h1.symm
    ·rw [List.getElem?_eq_none (by simp;omega)] at h1;cases h1
   subst this;simp [hk]
 ·intro b k1 o1 h1 h2 h3;have hlen:=hh.len;rcases zN b J.length with hb | hb
  ·rw [zC hb] at h1;rw [zC (by omega)] at h2;exact .inl ⟨h1,h2,hold _ (hh.lt b k1 h1)⟩
  ·right
   rw [zD hb] at h1;rw [zD (by omega),←hlen] at h2;rcases Nat.eq_zero_or_pos (b - J.length) with h0 | h0
   ·rw [h0] at h1 h2;simp at h1 h2;subst h1;subst h2
    exact ho _ _ fun x v hv=>hv.evo ev
   ·rw [List.getElem?_eq_none (by simp;omega)] at h1;cases h1
theorem QW {b:Nat} {o:bU} {k:dH} {o':bU} (hb:J[b]? =some k)(ho:h[b]? =some o')(ho':o'≠ .dead) {r:Nat} (hr:Own (h.set b o) J r):Own h J r:=by
 obtain⟨b',k',o1,h1,h2,h3,h4⟩:=hr;by_cases e:b=b'
 ·subst e;rw [hb] at h1;injection h1 with h1;subst h1;exact⟨b,k,o',hb,ho,ho',h4⟩
 ·rw [zJ e] at h2;exact⟨b',k',o1,h1,h2,h3,h4⟩
theorem bI.set (hh:bI gl h J w) {b:Nat} {k:dH} {o':bU} (o:bU)(hb:J[b]? =some k)(ho':h[b]? =some o')(hnd:o'≠ .dead)
  (hsz:w'.heap.size=w.heap.size) (hkeep: ∀r,r≠k.r→w'.heap[r]? =w.heap[r]?) (hos:w'.os=w.os) (htape:w'.tape=w.tape) (hout:w'.output=w.output)
  (ho: ∀O',(∀x v,aJ J (Own h J) w x v→aJ J O' w' x v)→ug J O' w' k o):
  bI gl (h.set b o) J w'∧ik h J w (h.set b o) J w':=by
 have hOwn:Own h J k.r:=⟨b,k,o',hb,ho',hnd,rfl⟩;have ev:ik h J w (h.set b o) J w':=by
  refine⟨⟨[],by simp⟩,by omega,fun r hr hn=>⟨hkeep r (fun e=>hn (e▸hOwn)),fun hO=>hn (QW hb ho' hnd hO)⟩,hos,htape,hout⟩
 have hblt:b<h.length:=(zA.1 ho').1;refine⟨hh.step ev (by simp [hh.len]) ?_ ?_ ?_,ev⟩
 ·intro b1 b2 k1 k2 o1 o2 h1 h2 h3 h4 h5 h6 h7;have old: ∀(b1:Nat) (k1:dH) (o1:bU),J[b1]? =some k1→(h.set b o)[b1]? =some o1→o1≠bU.dead→ ∃o:bU,h[b1]? =some o∧o≠bU.dead:=by
   intro b1 k1 o1 h1 h3 h5;by_cases e:b=b1
   ·subst e;exact⟨o',ho',hnd⟩
   ·rw [zJ e] at h3;exact⟨o1,h3,h5⟩
  obtain⟨p1,q1,r1⟩:=old b1 k1 o1 h1 h3 h5;obtain⟨p2,q2,r2⟩:=old b2 k2 o2 h2 h4 h6;exact hh.inj b1 b2 k1 k2 p1 p2 h1 h2 q1 q2 r1 r2 h7
 ·intro b1 k1 h1;rw [hsz];exact hh.lt b1 k1 h1
 ·intro b1 k1 o1 h1 h2 h3;by_cases e:b=b1
  ·subst e;rw [hb] at h1;injection h1 with h1;subst h1;rw [zI hblt] at h2;injection h2 with h2;subst h2;exact .inr (ho _ fun x v hv=>hv.evo ev)
  ·rw [zJ e] at h2;refine .inl ⟨h1,h2,hkeep _ fun he=>e ?_⟩;exact (hh.inj b1 b k1 k o1 o' h1 hb h2 ho' h3 hnd he).symm
theorem bI.kill (hh : bI gl h J w) {b : Nat} : bI gl (h.set b .dead) J w ∧ ik h J w (h.set b .dead) J w := by
  have sub : ∀ r, Own (h.set b .dead) J r → Own h J r := by
    rintro r ⟨b', k', o1, h1, h2, h3, h4⟩
    by_cases e : b = b'
    · subst e
      rw [List.getElem?_set] at h2
      split at h2
      · split at h2
        · injection h2 with h2; exact absurd h2.symm h3
        · cases h2
      · exact ⟨b, k', o1, h1, h2, h3, h4⟩
    · rw [zJ e] at h2
      exact ⟨b', k', o1, h1, h2, h3, h4⟩
  have ev : ik h J w (h.set b .dead) J w := ⟨⟨[], by simp⟩, Nat.le_refl _, fun r _ hn => ⟨rfl, fun hO => hn (sub r hO)⟩, rfl, rfl, rfl⟩
  have old : ∀ (b1 : Nat) (o1 : bU), (h.set b bU.dead)[b1]? = some o1 → o1 ≠ bU.dead → h[b1]? = some o1 := by
    intro b1 o1 h1 h2
    rw [List.getElem?_set] at h1
    split at h1
    · first
        | (injection h1 with h1; exact absurd h1.symm h2)
        | (split at h1
           · injection h1 with h1; exact absurd h1.symm h2
           · cases h1)
    · exact h1
  refine ⟨hh.step ev (by simp [hh.len]) ?_ hh.lt ?_, ev⟩
  · intro b1 b2 k1 k2 o1 o2 h1 h2 h3 h4 h5 h6 h7
    exact hh.inj b1 b2 k1 k2 o1 o2 h1 h2 (old _ _ h3 h5) (old _ _ h4 h6) h5 h6 h7
  · intro b1 k1 o1 h1 h2 h3
    exact .inl ⟨h1, old _ _ h2 h3, rfl⟩
theorem bI.move (hh : bI gl h J w) {b : Nat} {k : dH} {o' : bU} (k' : dH) (o : bU) (hb : J[b]? = some k) (ho' : h[b]? = some o') (hnd : o' ≠ .dead) (hk : k'.r = k.r)
    (ho : ∀ J' O', (∀ x v, aJ J (Own h J) w x v → aJ J' O' w x v) → ug J' O' w k' o) :
    bI gl (h.set b .dead ++ [o]) (J ++ [k']) w ∧ ik h J w (h.set b .dead ++ [o]) (J ++ [k']) w := by
  obtain ⟨hk1, ev1⟩ := hh.kill (b := b)
  have hlen := hh.len
  have hOwn : Own h J k.r := ⟨b, k, o', hb, ho', hnd, rfl⟩
  have hblt : b < h.length := (zA.1 ho').1
  have ev : ik h J w (h.set b .dead ++ [o]) (J ++ [k']) w := by
    refine ⟨⟨[k'], rfl⟩, Nat.le_refl _, fun r hr hn => ⟨rfl, fun hO => ?_⟩, rfl, rfl, rfl⟩
    rcases Be (by simp [hlen]) hO with h1 | ⟨_, h1⟩
    · exact (ev1.keep r hr hn).2 h1
    · rw [hk] at h1; exact hn (h1 ▸ hOwn)
  have last : ∀ b1 k1, (J ++ [k'])[b1]? = some k1 → J.length ≤ b1 → b1 = J.length ∧ k1 = k' := by
    intro b1 k1 h1 hb1
    rw [zD hb1] at h1
    rcases Nat.eq_zero_or_pos (b1 - J.length) with h0 | h0
    · rw [h0] at h1; exact ⟨by omega, by simpa using h1.symm⟩
    · rw [List.getElem?_eq_none (by simp; omega)] at h1; cases h1
  have old : ∀ (b1 : Nat) (o1 : bU), b1 < J.length → (h.set b bU.dead ++ [o])[b1]? = some o1 → o1 ≠ bU.dead → b1 ≠ b ∧ h[b1]? = some o1 := by
    intro b1 o1 hb1 h1 h2
    rw [zC (by simp; omega), List.getElem?_set] at h1
    split at h1
    · first
        | (injection h1 with h1; exact absurd h1.symm h2)
        | (split at h1
           · injection h1 with h1; exact absurd h1.symm h2
           · cases h1)
    · rename_i hne; exact ⟨Ne.symm hne, h1⟩
  refine ⟨hh.step ev (by simp [hlen]) ?_ ?_ ?_, ev⟩
  · intro b1 b2 k1 k2 o1 o2 h1 h2 h3 h4 h5 h6 h7
    rcases zN b1 J.length with l1 | l1 <;> rcases zN b2 J.length with l2 | l2
    · rw [zC l1] at h1
      rw [zC l2] at h2
      exact hh.inj b1 b2 k1 k2 o1 o2 h1 h2 (old _ _ l1 h3 h5).2 (old _ _ l2 h4 h6).2 h5 h6 h7
    · rw [zC l1] at h1
      obtain ⟨e1, e2⟩ := last _ _ h2 l2
      obtain ⟨n1, n2⟩ := old _ _ l1 h3 h5
      exact absurd (hh.inj b1 b k1 k o1 o' h1 hb n2 ho' h5 hnd (by rw [h7, e2, hk])) n1
    · rw [zC l2] at h2
      obtain ⟨e1, e2⟩ := last _ _ h1 l1
      obtain ⟨n1, n2⟩ := old _ _ l2 h4 h6
      exact absurd (hh.inj b2 b k2 k o2 o' h2 hb n2 ho' h6 hnd (by rw [← h7, e2, hk])) n1
    · rw [(last _ _ h1 l1).1, (last _ _ h2 l2).1]
  · intro b1 k1 h1
    rcases zN b1 J.length with l1 | l1
    · rw [zC l1] at h1; exact hh.lt b1 k1 h1
    · rw [(last _ _ h1 l1).2, hk]; exact hh.lt b k hb
  · intro b1 k1 o1 h1 h2 h3
    rcases zN b1 J.length with l1 | l1
    · rw [zC l1] at h1
      exact .inl ⟨h1, (old _ _ l1 h2 h3).2, rfl⟩
    · obtain ⟨e1, e2⟩ := last _ _ h1 l1
      rw [e1, zD (by simp; omega)] at h2
      have : o1 = o := by
        simp only [List.length_set] at h2
        rw [show J.length - h.length = 0 by omega] at h2
        simpa using h2.symm
      subst this
      rw [e2]
      exact .inr (ho _ _ fun x v hv => hv.evo ev)
end
end Go.Abs
end
section
namespace Go.Abs
open Go
def AV.core:AV→AV | .opt _ x=>x | x=>x
def AV.gd:AV→Bool | .opt g _=>g | _=>true
section
variable {J : List dH} {O : Nat → Prop} {w : World}
theorem aJ.core {x:AV} {v:Value} (h:aJ J O w x v)(hg:x.gd=true):aJ J O w x.core v:=by
 cases h with
 | opt g x v h h0=>exact h hg
 | _=>first | exact .bool _ | exact .int _ _ | exact .str _ | exact .lit _ ‹_› | exact .agg _ _ ‹_› ‹_› ‹_› | exact .tup _ _ ‹_› ‹_› | exact .nil | exact .e0 _ | exact .roNil | exact .ro _ _ _ _ _ ‹_› ‹_› ‹_› ‹_› ‹_› ‹_› ‹_› | exact .rop _ _ _ _ _ _ ‹_› ‹_› ‹_› ‹_› ‹_› ‹_› | exact .own _ _ _ _ _ _ ‹_› ‹_› ‹_› ‹_› | exact .ptr _ _ _ _ ‹_› | exact .fn _ _ _ _ _ ‹_› ‹_› ‹_› ‹_› | exact .map _ _ ‹_› | exact .obj _ _ ‹_› | exact .iface _ _ _ ‹_› | exact .junk _
end
def vY:Value→AV
 | .bool b=> .bool b
 | .int k n=> .int k n
 | .string s=> .str s.data.toList
 | .slice none 0 0=> .nil
 | v=> .lit v
def VM:Value→AV
 | .agg cs=>match cs.toList.all (·.oneCell') with
  | true=> .agg (cs.toList.map vY)
  | false=> .junk
 | .tuple _=> .junk
 | v=>vY v
theorem xG {J:List dH} {O:Nat→Prop} {w:World} {v:Value} (h:v.oneCell'=true):aJ J O w (vY v) v:=by
 unfold vY;split
 ·exact .bool _
 ·exact .int _ _
 ·rename_i s;have:s=⟨s.data.toList.toArray⟩:=by simp
  conv=>rhs;rw [this]
  exact .str _
 ·exact .nil
 ·exact .lit _ h
theorem jd {J:List dH} {O:Nat→Prop} {w:World} {l:List Value} (h: ∀v∈l,v.oneCell'=true):bC J O w (l.map vY) l:=by
 refine⟨by simp,fun i x v hx hv=> ?_⟩;simp only [List.getElem?_map,hv,Option.map_some,Option.some.injEq] at hx;subst hx;exact xG (h v (zF hv))
theorem P9 {J:List dH} {O:Nat→Prop} {w:World} (v:Value):aJ J O w (VM v) v:=by
 unfold VM;split
 ·rename_i cs;split
  ·rename_i hall;rw [List.all_eq_true] at hall;have:=jd (J:=J) (O:=O) (w:=w) hall;have e:cs=cs.toList.toArray:=by simp
   conv=>rhs;rw [e]
   exact .agg _ _ this.1 hall this.2
  ·exact .junk _
 ·exact .junk _
 ·rename_i h1 h2;refine xG ?_;cases v <;> first | rfl | (exfalso;first | exact h1 _ rfl | exact h2 _ rfl)
def ev (gl:aM)(fr:aH):Operand→AV
 | .tmp t=>fr t
 | .const v=>VM v
 | .global g=>match gl g with
  | some cs=> .rop [cs] 0 0
  | none=> .lit (.pointer (some ⟨g,0,none⟩))
 | .func f=> .fn (.func f) [] []
section
variable {gl : aM} {N : Nat} {J : List dH} {fr : aH} {h : ae} {a : Act} {w : World}
theorem nX (hh:bI gl h J w) {x:Operand} (ht: ∀t,x= .tmp t→aJ J (Own h J) w (fr t) (a.tmps.getD t undef)):aJ J (Own h J) w (ev gl fr x) (a.eval x):=by
 cases x with
 | tmp t=>exact ht t rfl
 | const v=>exact P9 v
 | global g=>
  simp only [ev,Act.eval];split
  ·rename_i cs hg;exact hh.glob g cs hg
  ·exact .lit _ rfl
 | func f=>exact .fn _ [] [] [] [] rfl rfl (by simp) (by simp)
def ed (fr:aH):Option Tmp→AV→aH
 | none,_=>fr
 | some d,x=>fun t=>if t=d then x else fr t
theorem nM.put (r:nM gl N J fr h a w) {dst:Option Tmp} {x:AV} {v:Value} (hd: ∀d,dst=some d→d<N)(hv:aJ J (Own h J) w x v):
  nM gl N J (ed fr dst x) h (a.put dst v) w:=by
 cases dst with
 | none=>exact r
 | some d=>
  refine⟨by simp [Act.put,r.size],r.defers,fun t=> ?_,r.heap⟩;have hd':=hd d rfl;by_cases htd:t=d
  ·subst htd;have hs:t<a.tmps.size:=by rw [r.size];exact hd'
   simp only [ed,if_true,Act.put];rw [Array.getD_eq_getD_getElem?,Array.getElem?_setIfInBounds_self_of_lt hs];exact hv
  ·have:=r.tmps t;simp only [ed,htd,if_false,Act.put];rw [Array.getD_eq_getD_getElem?,Array.getElem?_setIfInBounds_ne (Ne.symm htd),←Array.getD_eq_getD_getElem?];exact this
end
inductive TK where
 | bool | int (k:IntKind) | string | slice (e:TypeId) | array (n:Nat) (e:TypeId) | map (k e:TypeId) | struct (fs:List (Nat×Nat×TypeId)) | pointer (e:TypeId) | func | iface | other
structure TI where
 ok:Bool
 agg:Bool
 cells:Nat
 bytes:Nat
 kind:TK
 zok:Bool
 zero:List AV
def pQ (P:Program):TypeDesc→TK
 | .bool=> .bool
 | .int k=> .int k
 | .string=> .string
 | .slice e=> .slice e
 | .array n e=> .array n e
 | .map k e=> .map k e
 | .struct fs=> .struct (fs.toList.map fun f=>(f.offset,P.cellsOf f.type,f.type))
 | .pointer e=> .pointer e
 | .func _ _ _=> .func
 | .interface _=> .iface
 | _=> .other
def pW:TypeDesc→Bool
 | .struct _ | .array _ _=>true
 | _=>false
def E8:Value→Bool
 | .agg _=>true
 | _=>false
def LM (d:TypeDesc):Option Value→Bool
 | some z=>z.cells.toList.all (·.oneCell') && (E8 z==pW d)
 | none=>false
def ah (P : Program) (t : TypeId) : TI := match P.underlying t, P.info? t with
  | some d, some i => { ok := true, agg := pW d, cells := i.size, bytes := i.bytes, kind := pQ P d, zok := LM d i.zero,
                        zero := (match i.zero with | some z => z.cells.toList.map vY | none => []) }
  | _, _ => { ok := false, agg := false, cells := 0, bytes := 0, kind := .other, zok := false, zero := [] }
theorem dw {P : Program} {t : TypeId} (h : (ah P t).ok = true) : ∃ d i, P.underlying t = some d ∧ P.info? t = some i ∧
    ah P t = { ok := true, agg := pW d, cells := i.size, bytes := i.bytes, kind := pQ P d, zok := LM d i.zero,
                  zero := (match i.zero with | some z => z.cells.toList.map vY | none => []) } := by
  unfold ah at h ⊢
  split at h
  · rename_i d i hd hi; exact ⟨d, i, hd, hi, by simp [hd, hi]⟩
  · simp at h
theorem kg {P:Program} {t:TypeId} (h:(ah P t).ok=true)(w:World):(isAgg t).run P w= .ok (ah P t).agg w:=by
 obtain⟨d,i,hd,hi,e⟩:=dw h;rw [e];simp only [isAgg,Sem.run_bind,run_underlying hd,Result.andThen_ok];cases d <;> rfl
theorem bH {P:Program} {t:TypeId} (h:(ah P t).ok=true)(w:World):(sizeOf t).run P w= .ok (ah P t).cells w:=by
 obtain⟨d,i,hd,hi,e⟩:=dw h;rw [e];simp [sizeOf,typeInfo,hi]
theorem dW {P:Program} {t:TypeId} (h:(ah P t).ok=true)(hz:(ah P t).zok=true)(w:World):
  ∃z:Value,(zeroValue t).run P w= .ok z w∧(∀v∈z.cells.toList,v.oneCell'=true)∧(ah P t).zero=z.cells.toList.map vY∧E8 z=(ah P t).agg:=by
 obtain⟨d,i,hd,hi,e⟩:=dw h;rw [e] at hz ⊢;simp only at hz ⊢
 cases hzz:i.zero with
 | none=>simp [hzz,LM] at hz
 | some z=>
  simp only [hzz,LM,Bool.and_eq_true,List.all_eq_true,beq_iff_eq] at hz;exact⟨z,by simp [zeroValue,typeInfo,hi,hzz],hz.1,rfl,hz.2⟩
theorem bO {P:Program} {t e:TypeId} (h:(ah P t).kind= .slice e):P.underlying t=some (.slice e)∧(ah P t).ok=true:=by
 by_cases hok:(ah P t).ok=true
 ·obtain⟨d,i,hd,hi,e'⟩:=dw hok;rw [e'] at h;simp only at h;cases d <;> simp [pQ] at h
  subst h;exact⟨hd,hok⟩
 ·unfold ah at h hok;split at h
  ·rename_i hd hi;simp [hd,hi] at hok
  ·simp at h
theorem QK {P:Program} {t:TypeId} (h:(ah P t).kind≠ .other):(ah P t).ok=true:=by
 unfold ah at h ⊢;split
 ·rfl
 ·rename_i hx;split at h
  ·rename_i h1 h2;exact absurd h2 (hx _ _ h1)
  ·simp at h
theorem gm {P:Program} {t:TypeId} {k:TK} (h:(ah P t).kind=k)(hk:k≠ .other): ∃d,P.underlying t=some d∧pQ P d=k∧(ah P t).ok=true∧(ah P t).agg=pW d:=by
 have hok:(ah P t).ok=true:=QK (by rw [h];exact hk);obtain⟨d,i,hd,hi,e⟩:=dw hok;refine⟨d,hd,?_,hok,?_⟩
 ·rw [e] at h;exact h
 ·rw [e]
theorem add_add' (a:Addr)(m n:Nat):(a.add m).add n=a.add (m+n):=by
 unfold Addr.add;by_cases hm:m=0
 ·subst hm;simp
 ·by_cases hn:n=0
  ·subst hn;simp [hm]
  ·have: ¬(m+n=0):=by omega
   simp [hm,hn,Nat.add_assoc]
theorem kQ (b o n:Nat):Addr.add ⟨b,o,none⟩ n=⟨b,o+n,none⟩:=by
 unfold Addr.add;split
 ·rename_i h;subst h;rfl
 ·rfl
def hcells (h:ae)(b:Nat):List (List AV):=match h[b]? with
 | some (.cells _ es)=>es
 | _=>[]
def hsz (h:ae)(b:Nat):Nat:=match h[b]? with
 | some (.cells n _)=>n
 | _=>0
def hmap (h:ae)(b:Nat):List (AV×AV):=match h[b]? with
 | some (.map kvs)=>kvs
 | _=>[]
def isMap (h:ae)(b:Nat):Bool:=match h[b]? with
 | some (.map _)=>true
 | _=>false
def RV (J:List dH)(O:Nat→Prop)(w:World)(a:Addr)(e:List AV):Prop:=
 ∀(c:Nat) (x:AV),e[c]? =some x→ ∃v,w.cell? (a.add c)=some v∧v.oneCell'=true∧aJ J O w x v
section
variable {P : Program} {gl : aM} {J : List dH} {h : ae} {w : World} {O : Nat → Prop}
theorem cell_of_heap {w:World} {r off:Nat} {vs:Array Value} {T:TypeId} {fz:Nat×Nat} (hh:w.heap[r]? =some (.cells vs T fz)):w.cell? ⟨r,off,none⟩=vs[off]? :=by
 simp [World.cell?,hh]
theorem Ae (hh:bI gl h J w) {b i c:Nat} {e:List AV} {v:Value} (hv:aJ J (Own h J) w (.ptr b i c) v)(hi:(hcells h b)[i]? =some e):
  ∃(k:dH),J[b]? =some k∧v= .pointer (some ((⟨k.r,k.base+i*k.n,none⟩:Addr).add c))∧e.length=k.n∧RV J (Own h J) w ⟨k.r,k.base+i*k.n,none⟩ e:=by
 cases hv with
 | ptr _ _ _ k hb=>
  have ho: ∃n es,h[b]? =some (.cells n es)∧es[i]? =some e:=by
   unfold hcells at hi;split at hi
   ·rename_i n es he;exact⟨n,es,he,hi⟩
   ·simp at hi
  obtain⟨n,es,he,hei⟩:=ho;obtain⟨hkn,hn,hcap,hlen,vs,T,hheap,hsz,hcell⟩:=hh.obj b k _ hb he;refine⟨k,hb,by rw [kQ,Nat.add_assoc],hlen i e hei,fun c' x hx=> ?_⟩;obtain⟨v,hv1,hv2,hv3⟩:=hcell i e c' x hei hx;exact⟨v,by rw [kQ,cell_of_heap hheap,Nat.add_assoc];exact hv1,hv2,hv3⟩
theorem GJ {es:List (List AV)} {i c:Nat} {e:List AV} {v:Value} (hv:aJ J O w (.rop es i c) v)(hi:es[i]? =some e):
  ∃(a:Addr),v= .pointer (some (a.add c))∧RV J O w a e:=by
 cases hv with
 | rop _ _ _ a n f hn hO hl hc h1 h2=>
  refine⟨a.add (i*n),by rw [add_add'],fun c' x hx=> ?_⟩;exact⟨f i c',by rw [add_add'];exact hc i e c' x hi hx,h1 i e c' x hi hx,h2 i e c' x hi hx⟩
def qx (T:TI)(e:List AV)(c:Nat):AV:=match T.agg with
 | true=> .agg ((e.drop c).take T.cells)
 | false=>e.getD c .junk
def kH (T:TI)(e:List AV)(c:Nat):Prop:=match T.agg with
 | true=>c+T.cells≤e.length
 | false=>c<e.length
theorem o9 {t:TypeId} {a:Addr} {e:List AV} {c:Nat} (ht:(ah P t).ok=true)(hr:RV J O w a e)(hc:kH (ah P t) e c):
  ∃v,(loadVar t (a.add c)).run P w= .ok v w∧aJ J O w (qx (ah P t) e c) v:=by
 simp only [loadVar,Sem.run_bind,kg ht,Result.andThen_ok];unfold kH at hc;unfold qx
 cases hag:(ah P t).agg with
 | true=>
  simp only [hag] at hc ⊢;simp only [if_true,Sem.run_bind,bH ht,Result.andThen_ok]
  let f:Nat→Value:=fun j=>(w.cell? ((a.add c).add j)).getD undef
  have hf: ∀j,j<(ah P t).cells→w.cell? ((a.add c).add j)=some (f j)∧(f j).oneCell'=true∧ ∀x,e[c+j]? =some x→aJ J O w x (f j):=by
   intro j hj;have hx:e[c+j]? =some (e[c+j]'(by omega)):=zB (by omega);obtain⟨v,h1,h2,h3⟩:=hr (c+j) _ hx;have e1:w.cell? ((a.add c).add j)=some v:=by rw [add_add'];exact h1
   have e2:f j=v:=by simp [f,e1]
   refine⟨by rw [e2];exact e1,by rw [e2];exact h2,fun x hx'=> ?_⟩;rw [hx] at hx';injection hx' with hx';rw [e2,←hx'];exact h3
  rw [run_loadCells w (a.add c) (ah P t).cells f (fun j hj=>(hf j hj).1)];simp only [Result.andThen_ok,Sem.run_pure];refine⟨_,rfl,.agg _ _ (by simp;omega) ?_ ?_⟩
  ·intro v hv;obtain⟨j,hj,rfl⟩:=List.mem_map.1 hv;exact (hf j (List.mem_range.1 hj)).2.1
  ·intro i x v hx hv;have hi:i<(ah P t).cells:=by
    rcases zN i (ah P t).cells with h' | h'
    ·exact h'
    ·rw [List.getElem?_eq_none (by simp;omega)] at hv;cases hv
   simp only [List.getElem?_map,List.getElem?_range hi,Option.map_some,Option.some.injEq] at hv;subst hv;rw [List.getElem?_take_of_lt hi,List.getElem?_drop] at hx;exact (hf i hi).2.2 x hx
 | false=>
  simp only [hag] at hc ⊢;simp only [Bool.false_eq_true,if_false,run_load];have hx:e[c]? =some e[c]:=zB hc;obtain⟨v,h1,h2,h3⟩:=hr c _ hx;refine⟨v,by rw [h1],?_⟩;simpa [List.getD,hx] using h3
theorem Bh {t:TypeId} {cs:List AV} {off:Nat} {v:Value} (ht:(ah P t).ok=true)(hv:aJ J O w (.agg cs) v)(hc:kH (ah P t) cs off):
  ∃vs:List Value,v= .agg vs.toArray∧ ∃u,(part t vs.toArray off).run P w= .ok u w∧aJ J O w (qx (ah P t) cs off) u:=by
 cases hv with
 | agg _ vs hl h1 hh=>
  refine⟨vs,rfl,?_⟩;simp only [part,Sem.run_bind,kg ht,Result.andThen_ok];unfold kH at hc;unfold qx
  cases hag:(ah P t).agg with
  | true=>
   simp only [hag] at hc ⊢;simp only [if_true,Sem.run_bind,bH ht,Result.andThen_ok,Sem.run_pure];have e1:vs.toArray.extract off (off+(ah P t).cells)=((vs.drop off).take (ah P t).cells).toArray:=by
    simp [List.extract_toArray,List.extract_eq_take_drop]
   rw [e1];refine⟨_,rfl,.agg _ _ (by simp [hl]) ?_ ?_⟩
   ·intro u hu;exact h1 u (List.mem_of_mem_drop (List.mem_of_mem_take hu))
   ·intro i x u hx hu;have hi:i<(ah P t).cells:=by
     rcases zN i (ah P t).cells with h' | h'
     ·exact h'
     ·rw [List.getElem?_eq_none (by simp;omega)] at hu;cases hu
    rw [List.getElem?_take_of_lt hi,List.getElem?_drop] at hx hu;exact hh _ x u hx hu
  | false=>
   simp only [hag] at hc ⊢;simp only [Bool.false_eq_true,if_false];have hx:cs[off]? =some cs[off]:=zB hc;have hu:vs[off]? =some (vs[off]'(by omega)):=zB (by omega);have hua:vs.toArray[off]? =some (vs[off]'(by omega)):=by simp
   refine⟨vs[off]'(by omega),by rw [hua];rfl,?_⟩;simpa [List.getD,hx] using hh off _ _ hx hu
end
end Go.Abs
end
section
namespace Go.Abs
open Go
def SS (op:BinOp)(k:IntKind)(a b:Int):AV:=match op with
 | .add=> .int k (k.wrap (a+b))
 | .sub=> .int k (k.wrap (a - b))
 | .mul=> .int k (k.wrap (a*b))
 | .quo=> .int k (k.wrap (a.tdiv b))
 | .rem=> .int k (a.tmod b)
 | .and=> .int k (bits .and k a b)
 | .or=> .int k (bits .or k a b)
 | .xor=> .int k (bits .xor k a b)
 | .andNot=> .int k (bits .andNot k a b)
 | .shl=> .int k (k.wrap (a*2^(min b.toNat k.bits)))
 | .shr=> .int k (a.fdiv (2^(min b.toNat k.bits)))
 | .eql=> .bool (a==b)
 | .neq=> .bool (a !=b)
 | .lss=> .bool (decide (a<b))
 | .leq=> .bool (decide (a≤b))
 | .gtr=> .bool (decide (b<a))
 | .geq=> .bool (decide (b≤a))
def EX (op:BinOp)(k k':IntKind)(b:Int):Prop:=match op with
 | .quo | .rem=>k=k'∧b≠0
 | .shl | .shr=>0≤b
 | _=>k=k'
def Tn (op:BinOp)(a b:List UInt8):AV:=match op with
 | .add=> .str (a++b)
 | .eql=> .bool (a==b)
 | .neq=> .bool (!(a==b))
 | .lss=> .bool (Op.bytesLess a b)
 | .leq=> .bool (Op.bytesLess a b || a==b)
 | .gtr=> .bool (!(Op.bytesLess a b || a==b))
 | .geq=> .bool (!(Op.bytesLess a b))
 | _=> .junk
def FQ (op:BinOp)(a b:List UInt8):Prop:=match op with
 | .add=>a.length+b.length≤9223372036854775807
 | .eql | .neq | .lss | .leq | .gtr | .geq=>True
 | _=>False
inductive BK where | int | str | bool deriving DecidableEq
def lC:AV→AV→Bool
 | .int _ a,.int _ b=>a==b
 | .str a,.str b=>a==b
 | .bool a,.bool b=>a==b
 | _,_=>false
def iW:List AV→List AV→Bool
 | [],[]=>true
 | x::xs,y::ys=>lC x y && iW xs ys
 | _,_=>false
def zX:BK→AV→AV→Prop
 | .int,.int k _,.int k' _=>k=k'
 | .str,.str _,.str _=>True
 | .bool,.bool _,.bool _=>True
 | _,_,_=>False
def lF:List BK→List AV→List AV→Prop
 | [],[],[]=>True
 | b::bs,x::xs,y::ys=>zX b x y∧lF bs xs ys
 | _,_,_=>False
def iY (flat:TypeId→Option (List BK)):Nat→List Field→Option (List BK)
 | _,[]=>some []
 | off,f::fs=>if f.name≠ "_" ∧f.offset=off then
   match flat f.type with
   | some b=>match iY flat (off+b.length) fs with
    | some r=>some (b++r)
    | none=>none
   | none=>none
  else none
def flat (P:Program):Nat→TypeId→Option (List BK)
 | 0,_=>none
 | d+1,t=>match P.underlying t,P.info? t with
  | some (.int _),some i=>if i.size=1 then some [.int] else none
  | some .string,some i=>if i.size=1 then some [.str] else none
  | some .bool,some i=>if i.size=1 then some [.bool] else none
  | some (.struct fs),some i=>if P.stoodInHeld t then none else
   match iY (flat P d) 0 fs.toList with
   | some r=>if r.length=i.size then some r else none
   | none=>none
  | some (.array n e),some i=>match flat P d e with
   | some r=>if n*r.length=i.size∧P.cellsOf e=r.length then some ((List.range n).flatMap fun _=>r) else none
   | none=>none
  | _,_=>none
def ai:AV→List AV
 | .agg cs=>cs
 | x=>[x]
def aelems (h:ae):AV→List (List AV)
 | .ro es=>es
 | .own b off len=>((hcells h b).drop off).take len
 | .str s=>s.map fun c=>[.int .u8 (c.toNat:Int)]
 | _=>[]
def dA (T:TI)(x:AV):Prop:=match T.agg,x with
 | true,.agg _=>True
 | true,_=>False
 | false,.agg _=>False
 | false,_=>True
def RZ (op:BinOp)(x y:AV):AV:=match x,y with
 | .int k a,.int _ b=>SS op k a b
 | .str a,.str b=>Tn op a b
 | .bool a,.bool b=>match op with
  | .eql=> .bool (a==b)
  | .neq=> .bool (!(a==b))
  | _=> .junk
 | .agg xs,.agg ys=>match op with
  | .eql=> .bool (iW xs ys)
  | .neq=> .bool (!(iW xs ys))
  | _=> .junk
 | .nil,.nil=>match op with
  | .eql=> .bool true
  | .neq=> .bool false
  | _=> .junk
 | .own _ _ _,.nil=>match op with
  | .eql=> .bool false
  | .neq=> .bool true
  | _=> .junk
 | _,_=> .junk
def EB (P:Program)(op:BinOp)(t:TypeId)(x y:AV):Prop:=match x,y with
 | .int k _,.int k' b=>EX op k k' b
 | .str a,.str b=>FQ op a b
 | .bool _,.bool _=>(op= .eql∨op= .neq)∧(ah P t).kind= .bool
 | .agg xs,.agg ys=>(op= .eql∨op= .neq)∧P.eqGuardType P.depth t=false∧(ah P t).agg=true∧ ∃bs,flat P 50 t=some bs∧lF bs xs ys
 | .nil,.nil | .own _ _ _,.nil=>(op= .eql∨op= .neq)∧ ∃e,(ah P t).kind= .slice e
 | _,_=>False
def VU (op:UnOp)(x:AV):AV:=match op,x with
 | .neg,.int k n=> .int k (k.wrap (0 - n))
 | .not,.bool b=> .bool (!b)
 | _,_=> .junk
def KZ (op:UnOp)(x:AV):Prop:=match op,x with
 | .neg,.int _ _=>True
 | .not,.bool _=>True
 | _,_=>False
def Gi (P:Program)(dst:TypeId)(x:AV):AV:=match (ah P dst).kind,x with
 | .int k,.int _ n=> .int k (k.wrap n)
 | .string,.str s=> .str s
 | _,_=> .junk
def ED (P:Program)(src dst:TypeId)(x:AV):Prop:=(ah P src).ok=true∧match (ah P dst).kind,x with
 | .int _,.int _ _=>True
 | .string,.str _=>True
 | _,_=>False
def fJ (kvs:List (AV×AV))(k:AV):Option AV:=(kvs.find? fun p=>iW (ai k) (ai p.1)).map (·.2)
def jg (T:TI):AV:=match T.agg with
 | true=> .agg T.zero
 | false=>T.zero.getD 0 .junk
def gB (hi:Option Int)(len:Nat):Nat:=(hi.map Int.toNat).getD len
def bJ (x:AV)(lo hi:Option Int):AV:=match x with
 | .str s=> .str ((s.take (gB hi s.length)).drop ((lo.map Int.toNat).getD 0))
 | .ro es=> .ro ((es.take (gB hi es.length)).drop ((lo.map Int.toNat).getD 0))
 | .own b off len=> .own b (off+(lo.map Int.toNat).getD 0) (gB hi len - (lo.map Int.toNat).getD 0)
 | .nil=> .nil
 | .e0=> .e0
 | _=> .junk
def yG (lo:Option Int)(hi:Nat):Prop:=match lo with
 | none=>True
 | some l=>0≤l∧l≤hi
def kD (len:Nat)(lo hi:Option Int):Prop:=yG hi len∧yG lo (gB hi len)
def gT:AV→Int
 | .int _ n=>n
 | _=>0
def isInt:AV→Prop
 | .int _ _=>True
 | _=>False
def alen (h:ae):AV→Int
 | .str s=>s.length
 | .ro es=>es.length
 | .own _ _ len=>len
 | .map b=>(hmap h b).length
 | _=>0
def AV.bval:AV→Bool
 | .bool b=>b
 | _=>false
def vR:AV→Prop
 | .bool _=>True
 | _=>False
def Pn (c a b:AV):AV:=match c with
 | .bool t=> .bool (bif t then a.bval else b.bval)
 | _=> .junk
def fieldsOf (T:TI):List (Nat×Nat×TypeId):=match T.kind with
 | .struct fs=>fs
 | _=>[]
def mf (T:TI)(f:Nat):Nat:=((fieldsOf T).getD f (0,0,0)).1
def OD (T:TI)(f:Nat):Nat:=((fieldsOf T).getD f (0,0,0)).2.1
def fty (T:TI)(f:Nat):TypeId:=((fieldsOf T).getD f (0,0,0)).2.2
def splice {α:Type} (e:List α)(c:Nat)(cs:List α):List α:=e.take c++cs++e.drop (c+cs.length)
def yT (T:TI):List (Nat×AV)→List AV→List AV
 | [],cs=>cs
 | (i,x)::r,cs=>yT T r (splice cs (mf T i) (ai x))
def lm (n:Nat):List (Nat×AV)→List AV→List AV
 | [],cs=>cs
 | (i,x)::r,cs=>lm n r (splice cs (i*n) (ai x))
def AV.solid:AV→Bool
 | .junk | .tup _ | .opt _ _=>false
 | _=>true
def vB (T:TI):List (Nat×AV)→Prop
 | []=>True
 | (i,x)::r=>x.solid=true∧i<(fieldsOf T).length∧(ai x).length=OD T i∧mf T i+OD T i≤T.cells∧vB T r
def nP (n:Nat)(cells:Nat):List (Nat×AV)→Prop
 | []=>True
 | (i,x)::r=>x.solid=true∧(ai x).length=n∧i*n+n≤cells∧nP n cells r
def bY (P:Program)(t:TypeId):Nat:=match (ah P t).kind with
 | .slice e=>(ah P e).cells
 | _=>0
def loadV (P:Program)(h:ae)(t:TypeId):AV→AV
 | .ptr b i c=>qx (ah P t) ((hcells h b).getD i []) c
 | .rop es i c=>qx (ah P t) (es.getD i []) c
 | _=> .junk
def loadOk (P:Program)(h:ae)(t:TypeId):AV→Prop
 | .ptr b i c=>i<(hcells h b).length∧kH (ah P t) ((hcells h b).getD i []) c
 | .rop es i c=>i<es.length∧kH (ah P t) (es.getD i []) c
 | _=>False
def iX (P:Program)(s:TypeId)(f:Nat):AV→AV
 | .ptr b i c=> .ptr b i (c+mf (ah P s) f)
 | .rop es i c=> .rop es i (c+mf (ah P s) f)
 | _=> .junk
def faddrOk:AV→Prop
 | .ptr _ _ _=>True
 | .rop _ _ _=>True
 | _=>False
def ET (P:Program)(s:TypeId)(f:Nat):AV→AV
 | .agg cs=>qx (ah P (fty (ah P s) f)) cs (mf (ah P s) f)
 | _=> .junk
def y5 (P:Program)(s:TypeId)(f:Nat):AV→Prop
 | .agg cs=>kH (ah P (fty (ah P s) f)) cs (mf (ah P s) f)
 | _=>False
def cz (P:Program)(k:TK)(x:AV)(n:Int):AV:=match k,x with
 | .slice _,.own b off _=> .ptr b (off+n.toNat) 0
 | .slice _,.ro es=> .rop es n.toNat 0
 | .array _ e,.ptr b i c=> .ptr b i (c+n.toNat* (ah P e).cells)
 | .array _ e,.rop es i c=> .rop es i (c+n.toNat* (ah P e).cells)
 | _,_=> .junk
def iaddrOk (P:Program)(h:ae)(k:TK)(x:AV)(n:Int):Prop:=match k,x with
 | .slice e,.own b off len=>(ah P e).ok=true∧n<len∧off+len≤(hcells h b).length∧hsz h b=(ah P e).cells
 | .slice e,.ro es=>(ah P e).ok=true∧n<es.length∧(es.getD n.toNat []).length=(ah P e).cells
 | .array m e,.ptr _ _ _=>(ah P e).ok=true∧n<m
 | .array m e,.rop _ _ _=>(ah P e).ok=true∧n<m
 | _,_=>False
def EZ (P:Program)(k:TK)(x:AV)(n:Int):AV:=match k,x with
 | .string,.str s=> .int .u8 ((s.getD n.toNat 0).toNat:Int)
 | .array _ e,.agg cs=>qx (ah P e) cs (n.toNat* (ah P e).cells)
 | _,_=> .junk
def y7 (P:Program)(k:TK)(x:AV)(n:Int):Prop:=match k,x with
 | .string,.str s=>n<s.length
 | .array m e,.agg cs=>(ah P e).ok=true∧n<m∧kH (ah P e) cs (n.toNat* (ah P e).cells)
 | _,_=>False
def kZ (T:TI):Prop:=T.ok=true∧T.zok=true∧T.zero.length=T.cells
def Lp (P:Program)(h:ae)(kd:TK)(x k:AV)(ok:Bool):AV:=match kd,x with
 | .map _ e,.map b=>match ok with
  | true=> .tup [(fJ (hmap h b) k).getD (jg (ah P e)),.bool (fJ (hmap h b) k).isSome]
  | false=>(fJ (hmap h b) k).getD (jg (ah P e))
 | .map _ e,.lit (.map none)=>match ok with
  | true=> .tup [jg (ah P e),.bool false]
  | false=>jg (ah P e)
 | _,_=> .junk
def aW (P:Program)(t:TypeId)(k:AV)(kvs:List (AV×AV)):Prop:=dA (ah P t) k∧ ∃bs,flat P 50 t=some bs∧lF bs (ai k) (ai k)∧ ∀p∈kvs,dA (ah P t) p.1∧lF bs (ai k) (ai p.1)
def Ff (P:Program)(h:ae)(kd:TK)(x k:AV):Prop:=match kd,x with
 | .map t e,.map b=>isMap h b=true∧kZ (ah P e)∧aW P t k (hmap h b)
 | .map t e,.lit (.map none)=>kZ (ah P e)∧aW P t k []
 | _,_=>False
def vI (i:Nat):AV→AV
 | .tup l=>l.getD i .junk
 | _=> .junk
def rW (i:Nat):AV→Prop
 | .tup l=>i<l.length
 | _=>False
def EL (P:Program)(t:TypeId)(parts:List (Nat×AV)):AV:=match (ah P t).kind with
 | .struct _=> .agg (yT (ah P t) parts (ah P t).zero)
 | .array _ e=> .agg (lm (ah P e).cells parts (ah P t).zero)
 | _=> .junk
def EK (P:Program)(t:TypeId)(parts:List (Nat×AV)):Prop:=(ah P t).zok=true∧(ah P t).zero.length=(ah P t).cells∧match (ah P t).kind with
 | .struct fs=>vB (ah P t) parts∧ ∀p∈fs,(ah P p.2.2).ok=true
 | .array _ e=>(ah P e).ok=true∧nP (ah P e).cells (ah P t).cells parts
 | _=>False
def bM (P:Program)(h:ae)(k:TK)(x:AV)(lo hi:Option Int):Prop:=match k,x with
 | .string,.str s=>kD s.length lo hi
 | .slice e,.ro es=>(ah P e).ok=true∧(∀y∈es,y.length=(ah P e).cells)∧kD es.length lo hi
 | .slice e,.own b off len=>(ah P e).ok=true∧0<hsz h b∧hsz h b=(ah P e).cells∧kD len lo hi
 | .slice e,.nil=>(ah P e).ok=true∧kD 0 lo hi
 | .slice e,.e0=>(ah P e).ok=true∧kD 0 lo hi
 | _,_=>False
def vC (h:ae)(b:Builtin)(xs:List AV):AV:=match b,xs with
 | .len,[x]=> .int .i64 (alen h x)
 | .min,[.int k x,.int _ y]=> .int k (min x y)
 | .max,[.int k x,.int _ y]=> .int k (max x y)
 | .min,[.int k x,.int _ y,.int _ z]=> .int k (min (min x y) z)
 | .max,[.int k x,.int _ y,.int _ z]=> .int k (max (max x y) z)
 | _,_=> .junk
def lenOk (h:ae)(k:TK)(x:AV):Prop:=match k,x with
 | .string,.str _=>True
 | .slice _,.ro _=>True
 | .slice _,.own _ _ _=>True
 | .slice _,.nil=>True
 | .slice _,.e0=>True
 | .map _ _,.map b=>isMap h b=true
 | .map _ _,.lit (.map none)=>True
 | _,_=>False
def nQ (P:Program)(h:ae)(b:Builtin)(ts:List TypeId)(xs:List AV):Prop:=match b,xs with
 | .len,[x]=>match ts with
  | [t]=>lenOk h (ah P t).kind x
  | _=>False
 | .min,[.int _ _,.int _ _]=>True
 | .max,[.int _ _,.int _ _]=>True
 | .min,[.int _ _,.int _ _,.int _ _]=>True
 | .max,[.int _ _,.int _ _,.int _ _]=>True
 | _,_=>False
def J9 (c a b:AV):Prop:=match c.core with
 | .bool t=>(t=true→a.gd=true∧vR a.core)∧(t=false→b.gd=true∧vR b.core)
 | _=>False
def O6:AV→Prop
 | .ptr _ _ _=>True
 | .fn (.func _) _ _=>True
 | _=>False
def EY (k:TK):Prop:=match k with
 | .iface=>False
 | _=>True
def uw:Option AV→Prop
 | none=>True
 | some x=>x.gd=true∧isInt x.core
def Db (P:Program)(gl:aM)(fr:aH)(h:ae):Op→AV
 | .move x=>(ev gl fr x).core
 | .assign x=>(ev gl fr x).core
 | .pick c a b=>Pn (ev gl fr c).core (ev gl fr a).core (ev gl fr b).core
 | .build t parts=>EL P t (parts.toList.map fun p=>(p.1,(ev gl fr p.2).core))
 | .load t a=>loadV P h t (ev gl fr a).core
 | .nilCheck x=>(ev gl fr x).core
 | .binOp op _ x y _=>RZ op (ev gl fr x).core (ev gl fr y).core
 | .unOp op _ x=>VU op (ev gl fr x).core
 | .convert _ dst x=>Gi P dst (ev gl fr x).core
 | .makeInterface t x=> .iface t (ev gl fr x).core
 | .makeFunc f first caps=> .fn f (first.toList.map fun x=>(ev gl fr x).core) (caps.toList.map fun x=>(ev gl fr x).core)
 | .slice _ x lo hi _=>bJ (ev gl fr x).core (lo.map fun x=>gT (ev gl fr x).core) (hi.map fun x=>gT (ev gl fr x).core)
 | .fieldAddr s x f=>iX P s f (ev gl fr x).core
 | .field s x f=>ET P s f (ev gl fr x).core
 | .indexAddr t x ix=>cz P (ah P t).kind (ev gl fr x).core (gT (ev gl fr ix).core)
 | .index t x ix=>EZ P (ah P t).kind (ev gl fr x).core (gT (ev gl fr ix).core)
 | .lookup t x ix ok=>Lp P h (ah P t).kind (ev gl fr x).core (ev gl fr ix).core ok
 | .extract x i=>vI i (ev gl fr x).core
 | _=> .junk
def Ra (P:Program)(gl:aM)(fr:aH)(h:ae):Op→Prop
 | .move x=>(ev gl fr x).gd=true
 | .assign x=>(ev gl fr x).gd=true
 | .pick c a b=>(ev gl fr c).gd=true∧J9 (ev gl fr c) (ev gl fr a) (ev gl fr b)
 | .build t parts=>(∀p∈parts.toList,(ev gl fr p.2).gd=true)∧EK P t (parts.toList.map fun p=>(p.1,(ev gl fr p.2).core))
 | .load t a=>(ev gl fr a).gd=true∧(ah P t).ok=true∧loadOk P h t (ev gl fr a).core
 | .nilCheck x=>(ev gl fr x).gd=true∧O6 (ev gl fr x).core
 | .binOp op t x y _=>(ev gl fr x).gd=true∧(ev gl fr y).gd=true∧EB P op t (ev gl fr x).core (ev gl fr y).core
 | .unOp op _ x=>(ev gl fr x).gd=true∧KZ op (ev gl fr x).core
 | .convert src dst x=>(ev gl fr x).gd=true∧ED P src dst (ev gl fr x).core
 | .makeInterface t x=>(ev gl fr x).gd=true∧(ah P t).ok=true∧EY (ah P t).kind
 | .makeFunc _ first caps=>(∀x∈first.toList,(ev gl fr x).gd=true)∧(∀x∈caps.toList,(ev gl fr x).gd=true)
 | .slice t x lo hi mx=>(ev gl fr x).gd=true∧mx=none∧uw (lo.map (ev gl fr))∧uw (hi.map (ev gl fr))∧
  bM P h (ah P t).kind (ev gl fr x).core (lo.map fun x=>gT (ev gl fr x).core) (hi.map fun x=>gT (ev gl fr x).core)
 | .fieldAddr s x f=>(ev gl fr x).gd=true∧f<(fieldsOf (ah P s)).length∧0<OD (ah P s) f∧(ah P (fty (ah P s) f)).ok=true∧faddrOk (ev gl fr x).core
 | .field s x f=>(ev gl fr x).gd=true∧f<(fieldsOf (ah P s)).length∧(ah P (fty (ah P s) f)).ok=true∧y5 P s f (ev gl fr x).core
 | .indexAddr t x ix=>(ev gl fr x).gd=true∧(ev gl fr ix).gd=true∧isInt (ev gl fr ix).core∧0≤gT (ev gl fr ix).core∧iaddrOk P h (ah P t).kind (ev gl fr x).core (gT (ev gl fr ix).core)
 | .index t x ix=>(ev gl fr x).gd=true∧(ev gl fr ix).gd=true∧isInt (ev gl fr ix).core∧0≤gT (ev gl fr ix).core∧y7 P (ah P t).kind (ev gl fr x).core (gT (ev gl fr ix).core)
 | .lookup t x ix _=>(ev gl fr x).gd=true∧(ev gl fr ix).gd=true∧Ff P h (ah P t).kind (ev gl fr x).core (ev gl fr ix).core
 | .extract x i=>(ev gl fr x).gd=true∧rW i (ev gl fr x).core
 | _=>False
end Go.Abs
end
end
section
section
section
namespace Go.Abs
open Go
section
variable {P : Program} {gl : aM} {J : List dH} {h : ae} {w : World} {O : Nat → Prop} {fr : aH}
theorem F9 (s:List UInt8):(⟨s.toArray⟩:ByteArray).toList=s:=ByteArray.toList_mk s
theorem KD (a b:List UInt8):(⟨a.toArray⟩:ByteArray)++⟨b.toArray⟩=⟨(a++b).toArray⟩:=by
 apply ByteArray.ext;simp
theorem JE (op:BinOp)(t:TypeId)(X Y:Operand)(k k':IntKind)(a b:Int)(hok:EX op k k' b):
  ∃r,(do eqGuard op t X Y (.int k a) (.int k' b);binOp op t (.int k a) (.int k' b)).run P w= .ok r w∧aJ J O w (SS op k a b) r:=by
 simp only [eqGuard_at_int,Sem.run_bind,Sem.run_pure,Result.andThen_ok];cases op <;> simp only [EX] at hok
 case shl=>
  refine⟨_,?_,.int _ _⟩;simp only [binOp_shl,Op.shift];rw [if_neg (by omega)];rfl
 case shr=>
  refine⟨_,?_,.int _ _⟩;simp only [binOp_shr,Op.shift];rw [if_neg (by omega)];rfl
 case quo=>
  obtain⟨rfl,hb⟩:=hok;refine⟨_,?_,.int _ _⟩;simp only [binOp_quo,Op.intDiv];rw [if_neg hb];rfl
 case rem=>
  obtain⟨rfl,hb⟩:=hok;refine⟨_,?_,.int _ _⟩;simp only [binOp_rem,Op.intDiv];rw [if_neg hb];rfl
 all_goals
  subst hok;first
   | exact⟨_,by simp only [binOp_add,binOp_sub,binOp_mul,binOp_and,binOp_or,binOp_xor,binOp_andNot,binOp_eql,binOp_neq,binOp_lss,binOp_leq,binOp_gtr,binOp_geq];rfl,.int _ _⟩
   | exact⟨_,by simp only [binOp_add,binOp_sub,binOp_mul,binOp_and,binOp_or,binOp_xor,binOp_andNot,binOp_eql,binOp_neq,binOp_lss,binOp_leq,binOp_gtr,binOp_geq];rfl,.bool _⟩
theorem Kn (op:BinOp)(t:TypeId)(X Y:Operand)(a b:List UInt8)(hok:FQ op a b):
  ∃r,(do eqGuard op t X Y (.string ⟨a.toArray⟩) (.string ⟨b.toArray⟩);binOp op t (.string ⟨a.toArray⟩) (.string ⟨b.toArray⟩)).run P w= .ok r w∧aJ J O w (Tn op a b) r:=by
 simp only [eqGuard_at_string,Sem.run_bind,Sem.run_pure,Result.andThen_ok];cases op <;> simp only [FQ] at hok
 case add=>
  refine⟨_,?_,.str _⟩;have: ¬(((⟨a.toArray⟩:ByteArray).size+(⟨b.toArray⟩:ByteArray).size:Nat):Int)>IntKind.i64.max:=by
   simp [ByteArray.size];omega
  simp only [binOp_string_add,Op.stringOp,if_neg this,KD,Sem.run_pure]
 all_goals
  refine⟨_,?_,.bool _⟩;simp [binOp,Op.stringOp,F9]
theorem Am {d:Nat} {t:TypeId} {bs:List BK} (hf:flat P (d+1) t=some bs)(hn: ∀fs,P.underlying t≠some (.struct fs))(hn': ∀n e,P.underlying t≠some (.array n e)):
  (∃k,P.underlying t=some (.int k)∧bs=[.int])∨(P.underlying t=some .string∧bs=[.str])∨(P.underlying t=some .bool∧bs=[.bool]):=by
 unfold flat at hf;split at hf
 ·rename_i k i h1 h2;split at hf <;> simp at hf
  exact .inl ⟨k,h1,hf.symm⟩
 ·rename_i i h1 h2;split at hf <;> simp at hf
  exact .inr (.inl ⟨h1,hf.symm⟩)
 ·rename_i i h1 h2;split at hf <;> simp at hf
  exact .inr (.inr ⟨h1,hf.symm⟩)
 ·rename_i fs i h1 h2;exact absurd h1 (hn fs)
 ·rename_i n e i h1 h2;exact absurd h1 (hn' n e)
 ·simp at hf
theorem eY: ∀(bs:List BK) (xs ys:List AV),lF bs xs ys→xs.length=bs.length∧ys.length=bs.length
 | [],[],[],_=>⟨rfl,rfl⟩
 | _::bs,_::xs,_::ys,h=>by
  simp only [lF] at h;have:=eY bs xs ys h.2;simp [this]
 | [],[],_::_,h=>by simp [lF] at h
 | [],_::_,_,h=>by simp [lF] at h
 | _::_,[],_,h=>by simp [lF] at h
 | _::_,_::_,[],h=>by simp [lF] at h
theorem zY {b1 b2:List BK}: ∀ {xs ys:List AV},lF (b1++b2) xs ys→lF b1 (xs.take b1.length) (ys.take b1.length)∧lF b2 (xs.drop b1.length) (ys.drop b1.length):=by
 induction b1 with
 | nil=>intro xs ys h;simpa [lF] using h
 | cons b b1 ih=>
  intro xs ys h
  cases xs with
  | nil=>simp [lF] at h
  | cons x xs=>
   cases ys with
   | nil=>simp [lF] at h
   | cons y ys=>
    simp only [List.cons_append,lF] at h;have:=ih h.2;simp [lF,h.1,this.1,this.2]
theorem uj: ∀(n:Nat) (xs ys:List AV),n≤xs.length→n≤ys.length→iW xs ys=(iW (xs.take n) (ys.take n) && iW (xs.drop n) (ys.drop n))
 | 0,xs,ys,_,_=>by simp [iW]
 | n+1,[],_,h,_=>by simp at h
 | n+1,_::_,[],_,h=>by simp at h
 | n+1,x::xs,y::ys,h1,h2=>by
  simp only [List.length_cons] at h1 h2;simp only [iW,List.take_succ_cons,List.drop_succ_cons];rw [uj n xs ys (by omega) (by omega),Bool.and_assoc]
def iG (J:List dH)(O:Nat→Prop)(w:World)(xs:List AV)(us:List Value)(off:Nat):Prop:=
 ∀i x,xs[i]? =some x→ ∃u,us[off+i]? =some u∧aJ J O w x u
theorem kr {xs:List AV} {us:List Value} {off n:Nat} (hs:iG J O w xs us off):iG J O w (xs.take n) us off:=by
 intro i x hx;rw [List.getElem?_take] at hx;split at hx
 ·exact hs i x hx
 ·simp at hx
theorem ko {xs:List AV} {us:List Value} {off n:Nat} (hs:iG J O w xs us off):iG J O w (xs.drop n) us (off+n):=by
 intro i x hx;rw [List.getElem?_drop] at hx;obtain⟨u,h1,h2⟩:=hs _ x hx;exact⟨u,by rw [Nat.add_assoc];exact h1,h2⟩
theorem fU {t:TypeId} {d:TypeDesc} (hd:P.underlying t=some d)(w:World):(isAgg t).run P w= .ok (pW d) w:=by
 simp only [isAgg,Sem.run_bind,run_underlying hd,Result.andThen_ok];cases d <;> rfl
def Ac (d:Nat)(e:TypeId)(n:Nat)(xs ys:Array Value):List Nat→Sem Bool
 | []=>pure true
 | i::l=>do
  let a ←part e xs (i*n)
  let b ←part e ys (i*n)
  let r ←Op.equalIn d e a b
  if (!r)=true then pure false else Ac d e n xs ys l
theorem run_equalIn_array (w:World)(d:Nat)(t e:TypeId)(len n:Nat)(xs ys:Array Value)(ht:P.underlying t=some (.array len e))(hn:(sizeOf e).run P w= .ok n w):
  (Op.equalIn (d+1) t (.agg xs) (.agg ys)).run P w=(Ac d e n xs ys (List.range len)).run P w:=by
 simp only [Op.equalIn,Sem.run_bind,run_underlying ht,Result.andThen_ok,hn];simp only [Std.Legacy.Range.forIn_eq_forIn_range',Std.Legacy.Range.size,Nat.sub_zero,Nat.add_sub_cancel,Nat.div_one,←List.range_eq_range'];generalize List.range len=fs;clear ht hn
 induction fs generalizing w with
 | nil=>simp [Ac]
 | cons f fs ih=>
  simp only [List.forIn_cons,Ac,Sem.run_bind];generalize (part e xs (f*n)).run P w=r1
  cases r1 with
  | ok a w1=>
   simp only [Result.andThen_ok];generalize (part e ys (f*n)).run P w1=r2
   cases r2 with
   | ok b w2=>
    simp only [Result.andThen_ok];generalize (Op.equalIn d e a b).run P w2=r3
    cases r3 with
    | ok r w3=>
     cases r
     ·simp only [Result.andThen_ok,Bool.not_false,if_true,Sem.run_pure]
     ·simp only [Result.andThen_ok,Bool.not_true,Bool.false_eq_true,if_false,Sem.run_pure];exact ih w3
    | halt x w3=>simp [Result.andThen]
   | halt x w2=>simp [Result.andThen]
  | halt x w1=>simp [Result.andThen]
theorem oN: ∀(d:Nat) (t:TypeId) (bs:List BK),flat P d t=some bs→ ∀(xs ys:List AV) (us vs:List Value) (off:Nat) (m:Nat),d≤m→lF bs xs ys→iG J O w xs us off→iG J O w ys vs off→
  (part t us.toArray off>>=fun a=>part t vs.toArray off>>=fun b=>Op.equalIn m t a b).run P w= .ok (iW xs ys) w
 | 0,_,_,hf=>by simp [flat] at hf
 | d+1,t,bs,hf=>by
  intro xs ys us vs off m hm hc hxs hys;obtain⟨m,rfl⟩: ∃m',m=m'+1:=⟨m - 1,by omega⟩;by_cases hst: ∃fs,P.underlying t=some (.struct fs)
  ·obtain⟨fs,hu⟩:=hst;have hf':=hf;unfold flat at hf'
   cases hi:P.info? t with
   | none=>simp [hu,hi] at hf'
   | some i=>
   simp only [hu,hi] at hf';split at hf'
   ·simp at hf'
   rename_i hsi;split at hf'
   ·rename_i r hr;split at hf'
    ·rename_i hlen;injection hf' with hf';subst hf';have hl:=eY _ _ _ hc;have hp1:(part t us.toArray off).run P w= .ok (.agg (us.toArray.extract off (off+r.length))) w:=by
      simp only [part,Sem.run_bind,fU hu,Result.andThen_ok,pW,if_true,sizeOf,typeInfo,run_program,hi,Sem.run_pure,hlen]
     have hp2:(part t vs.toArray off).run P w= .ok (.agg (vs.toArray.extract off (off+r.length))) w:=by
      simp only [part,Sem.run_bind,fU hu,Result.andThen_ok,pW,if_true,sizeOf,typeInfo,run_program,hi,Sem.run_pure,hlen]
     rw [Sem.run_bind,hp1,Result.andThen_ok,Sem.run_bind,hp2,Result.andThen_ok];have hfs:P.fieldsOf t=fs:=by simp [Program.fieldsOf,hu]
     rw [run_equalIn_struct w m t _ _ (by rw [hfs];exact hu) (by simpa using hsi),hfs];have e1:us.toArray.extract off (off+r.length)=((us.drop off).take r.length).toArray:=by
      simp [List.extract_toArray,List.extract_eq_take_drop]
     have e2:vs.toArray.extract off (off+r.length)=((vs.drop off).take r.length).toArray:=by
      simp [List.extract_toArray,List.extract_eq_take_drop]
     rw [e1,e2];have s1:iG J O w xs ((us.drop off).take r.length) 0:=by
      intro i x hx;obtain⟨u,h1,h2⟩:=hxs i x hx;have hi':i<r.length:=by
       rw [←hl.1];exact (zA.1 hx).1
      exact⟨u,by rw [Nat.zero_add,List.getElem?_take_of_lt hi',List.getElem?_drop];exact h1,h2⟩
     have s2:iG J O w ys ((vs.drop off).take r.length) 0:=by
      intro i x hx;obtain⟨u,h1,h2⟩:=hys i x hx;have hi':i<r.length:=by
       rw [←hl.2];exact (zA.1 hx).1
      exact⟨u,by rw [Nat.zero_add,List.getElem?_take_of_lt hi',List.getElem?_drop];exact h1,h2⟩
     generalize (us.drop off).take r.length=us' at s1 ⊢;generalize (vs.drop off).take r.length=vs' at s2 ⊢;clear e1 e2 hp1 hp2 hfs hl hxs hys hlen hsi hf hu;have key: ∀(l:List Field) (o:Nat) (r:List BK),iY (flat P d) o l=some r→ ∀(xs ys:List AV),lF r xs ys→iG J O w xs us' o→iG J O w ys vs' o→
       (Op.eqFields m us'.toArray vs'.toArray l).run P w= .ok (iW xs ys) w:=by
      intro l
      induction l with
      | nil=>
       intro o r hr xs ys hc _ _;simp [iY] at hr;subst hr;have:=eY _ _ _ hc;have hx:xs=[]:=by simpa using this.1
       have hy:ys=[]:=by simpa using this.2
       subst hx;subst hy
       simp [Op.eqFields,iW]
      | cons f l ih=>
       intro o r hr xs ys hc hx hy;unfold iY at hr;split at hr
       ·rename_i hname;split at hr
        ·rename_i b hb;split at hr
         ·rename_i r' hr';injection hr with hr;subst hr;have hl:=eY _ _ _ hc;simp only [List.length_append] at hl;obtain⟨c1,c2⟩:=zY hc;have h1:=oN d f.type b hb (xs.take b.length) (ys.take b.length) us' vs' f.offset m (by omega) c1 (by rw [hname.2];exact kr hx) (by rw [hname.2];exact kr hy);have h2:=ih (o+b.length) r' hr' (xs.drop b.length) (ys.drop b.length) c2 (ko hx) (ko hy);rw [uj b.length xs ys (by omega) (by omega)];simp only [Op.eqFields,if_pos hname.1];simp only [Sem.run_bind] at h1 ⊢;generalize (part f.type us'.toArray f.offset).run P w=r1 at h1 ⊢
          cases r1 with
          | halt=>simp [Result.andThen] at h1
          | ok a w1=>
           simp only [Result.andThen_ok] at h1 ⊢;generalize (part f.type vs'.toArray f.offset).run P w1=r2 at h1 ⊢
           cases r2 with
           | halt=>simp [Result.andThen] at h1
           | ok b' w2=>
            simp only [Result.andThen_ok] at h1 ⊢;rw [h1];simp only [Result.andThen_ok]
            cases iW (xs.take b.length) (ys.take b.length) with
            | false=>simp
            | true=>simpa using h2
         ·simp at hr
        ·simp at hr
       ·simp at hr
     exact key fs.toList 0 r hr xs ys hc s1 s2
    ·simp at hf'
   ·simp at hf'
  ·by_cases har: ∃n e,P.underlying t=some (.array n e)
   ·obtain⟨len,e,hu⟩:=har;have hf':=hf;unfold flat at hf'
    cases hi:P.info? t with
    | none=>simp [hu,hi] at hf'
    | some i=>
    simp only [hu,hi] at hf';split at hf'
    ·rename_i r hr;split at hf'
     ·rename_i hlen;injection hf' with hf';have hsz:(sizeOf e).run P w= .ok r.length w:=by
       have h0:=hlen.2
       cases d with
       | zero=>simp [flat] at hr
       | succ d=>
        cases hie:P.info? e with
        | none=>
         unfold flat at hr;rw [hie] at hr;cases hue:P.underlying e <;> simp [hue] at hr
        | some ie=>simp [Program.cellsOf,hie] at h0;simp [sizeOf,typeInfo,hie,h0]
      have hbl:bs.length=i.size:=by
       rw [←hf',←hlen.1,List.length_flatMap,List.map_const',List.length_range,List.sum_replicate_nat]
      have hl:=eY _ _ _ hc;have hp: ∀us:List Value,(part t us.toArray off).run P w= .ok (.agg (us.toArray.extract off (off+bs.length))) w:=by
       intro us;simp only [part,Sem.run_bind,fU hu,Result.andThen_ok,pW,if_true,sizeOf,typeInfo,run_program,hi,Sem.run_pure,hbl]
      rw [Sem.run_bind,hp,Result.andThen_ok,Sem.run_bind,hp,Result.andThen_ok,run_equalIn_array w m t e len r.length _ _ hu hsz];have e1: ∀us:List Value,us.toArray.extract off (off+bs.length)=((us.drop off).take bs.length).toArray:=by
       intro us;simp [List.extract_toArray,List.extract_eq_take_drop]
      rw [e1,e1];have s0: ∀(xs:List AV) (us:List Value),xs.length=bs.length→iG J O w xs us off→iG J O w xs ((us.drop off).take bs.length) 0:=by
       intro xs us hl hxs i x hx;obtain⟨u,h1,h2⟩:=hxs i x hx;have hi':i<bs.length:=by
        rw [←hl];exact (zA.1 hx).1
       exact⟨u,by rw [Nat.zero_add,List.getElem?_take_of_lt hi',List.getElem?_drop];exact h1,h2⟩
      have s1:=s0 xs us hl.1 hxs;have s2:=s0 ys vs hl.2 hys;generalize (us.drop off).take bs.length=us' at s1 ⊢;generalize (vs.drop off).take bs.length=vs' at s2 ⊢;have key: ∀(k s:Nat) (xs ys:List AV),lF ((List.range' s k).flatMap fun _=>r) xs ys→iG J O w xs us' (s*r.length)→iG J O w ys vs' (s*r.length)→
        (Ac m e r.length us'.toArray vs'.toArray (List.range' s k)).run P w= .ok (iW xs ys) w:=by
       intro k
       induction k with
       | zero=>
        intro s xs ys hc _ _;have:=eY _ _ _ hc;simp at this;obtain⟨hx,hy⟩:=this;subst hx;subst hy
        simp [Ac,iW]
       | succ k ih=>
        intro s xs ys hc hx hy;rw [List.range'_succ,List.flatMap_cons] at hc;rw [List.range'_succ];have hl:=eY _ _ _ hc;simp only [List.length_append] at hl;obtain⟨c1,c2⟩:=zY hc;have h1:=oN d e r hr (xs.take r.length) (ys.take r.length) us' vs' (s*r.length) m (by omega) c1 (kr hx) (kr hy);have h2:=ih (s+1) (xs.drop r.length) (ys.drop r.length) c2 (by rw [Nat.add_mul,Nat.one_mul];exact ko hx) (by rw [Nat.add_mul,Nat.one_mul];exact ko hy);rw [uj r.length xs ys (by omega) (by omega)];simp only [Ac];simp only [Sem.run_bind] at h1 ⊢;generalize (part e us'.toArray (s*r.length)).run P w=r1 at h1 ⊢
        cases r1 with
        | halt=>simp [Result.andThen] at h1
        | ok a w1=>
         simp only [Result.andThen_ok] at h1 ⊢;generalize (part e vs'.toArray (s*r.length)).run P w1=r2 at h1 ⊢
         cases r2 with
         | halt=>simp [Result.andThen] at h1
         | ok b' w2=>
          simp only [Result.andThen_ok] at h1 ⊢;rw [h1];simp only [Result.andThen_ok]
          cases iW (xs.take r.length) (ys.take r.length) with
          | false=>simp
          | true=>simpa using h2
      rw [List.range_eq_range'];exact key len 0 xs ys (by rw [←List.range_eq_range',hf'];exact hc) (by simpa using s1) (by simpa using s2)
     ·simp at hf'
    ·simp at hf'
   ·have hb:=Am hf (fun fs h=>hst ⟨fs,h⟩) (fun n e h=>har ⟨n,e,h⟩);have cell: ∀(xs:List AV) (us:List Value) (x:AV),xs=[x]→iG J O w xs us off→ ∀d,P.underlying t=some d→pW d=false→ ∃u,(part t us.toArray off).run P w= .ok u w∧aJ J O w x u:=by
     intro xs us x hx hs d hd hag;subst hx;obtain⟨u,h1,h2⟩:=hs 0 x (by simp);refine⟨u,?_,h2⟩;simp only [part,Sem.run_bind,fU hd,Result.andThen_ok,hag,Bool.false_eq_true,if_false];have:us.toArray[off]? =some u:=by simpa using h1
     rw [this];rfl
    rcases hb with⟨k,hu,rfl⟩ | ⟨hu,rfl⟩ | ⟨hu,rfl⟩
    all_goals
     have hl:=eY _ _ _ hc;obtain⟨x,hx1⟩:=List.length_eq_one_iff.1 hl.1;obtain⟨y,hy1⟩:=List.length_eq_one_iff.1 hl.2;subst hx1;subst hy1
     focus
      simp only [lF,and_true] at hc;obtain⟨u,hp1,hr1⟩:=cell _ us x rfl hxs _ hu rfl;obtain⟨v,hp2,hr2⟩:=cell _ vs y rfl hys _ hu rfl;rw [Sem.run_bind,hp1,Result.andThen_ok,Sem.run_bind,hp2,Result.andThen_ok];unfold zX at hc;split at hc <;> first | (simp at hc;done) | (rename_i heq;cases heq;done) | skip
      cases hr1;cases hr2
      first
       | (subst hc;rw [run_equalIn_int w m t _ _ _ _ hu];simp [iW,lC])
       | (rw [run_equalIn_string w m t _ _ hu];simp [iW,lC,F9])
       | (rw [run_equalIn_bool w m t _ _ hu];simp [iW,lC])
end
end Go.Abs
end
section
namespace Go.Abs
open Go
section
variable {P : Program} {gl : aM} {J : List dH} {h : ae} {w : World} {O : Nat → Prop} {fr : aH}
theorem fG {xs:List AV} {us:List Value} (hl:xs.length=us.length)(hs: ∀(i:Nat) (x:AV) (v:Value),xs[i]? =some x→us[i]? =some v→aJ J O w x v):iG J O w xs us 0:=by
 intro i x hx;have hi:i<us.length:=by rw [←hl];exact (zA.1 hx).1
 exact⟨us[i],by rw [Nat.zero_add];exact zB hi,hs i x _ hx (zB hi)⟩
theorem oP {d:Nat} {t:TypeId} {bs:List BK} (hf:flat P d t=some bs):(ah P t).ok=true:=by
 cases d with
 | zero=>simp [flat] at hf
 | succ d=>
  unfold flat at hf;unfold ah
  cases hu:P.underlying t with
  | none=>simp [hu] at hf
  | some td=>
   cases hi:P.info? t with
   | none=>cases td <;> simp [hu,hi] at hf
   | some i=>simp
theorem Ao {d:Nat} {t:TypeId} {bs:List BK} (hf:flat P d t=some bs):(ah P t).cells=bs.length:=by
 obtain⟨td,i,hu,hi,e⟩:=dw (oP hf);rw [e];simp only
 cases d with
 | zero=>simp [flat] at hf
 | succ d=>
  unfold flat at hf;rw [hu,hi] at hf;cases td <;> simp only at hf <;> first | (simp at hf;done) | skip
  all_goals
   repeat (split at hf <;> first | (simp at hf;done) | skip)
   all_goals first
    | (simp at hf;subst hf;simp;omega)
    | (rename_i h1;injection hf with hf;subst hf;rw [List.length_flatMap,List.map_const',List.length_range,List.sum_replicate_nat];omega)
    | (injection hf with hf;subst hf;simp_all)
theorem dX {x:AV} {u:Value} (hx:aJ J O w x u)(hna: ∀cs,x≠ .agg cs):ai x=[x]:=by
 cases x <;> first | rfl | exact absurd rfl (hna _)
theorem Ad {t:TypeId} {bs:List BK} (hf:flat P 50 t=some bs) {x y:AV} {u v:Value} (hx:aJ J O w x u)(hy:aJ J O w y v)(hax:dA (ah P t) x)(hay:dA (ah P t) y)
  (hc:lF bs (ai x) (ai y)) (m:Nat) (hm:50≤m):(Op.equalIn m t u v).run P w= .ok (iW (ai x) (ai y)) w:=by
 have hl:=eY _ _ _ hc;have hok:=oP hf;have hcells:=Ao hf;unfold dA at hax hay
 cases hag:(ah P t).agg with
 | true=>
  rw [hag] at hax hay;cases x <;> simp only at hax
  cases y <;> simp only at hay
  rename_i xs ys;simp only [ai] at hl hc ⊢
  cases hx with
  | agg _ us hl1 ho1 h1=>
   cases hy with
   | agg _ vs hl2 ho2 h2=>
    have h0:=oN (P:=P) 50 t bs hf xs ys us vs 0 m hm hc (fG hl1 h1) (fG hl2 h2);have p1: ∀us:List Value,us.length=bs.length→(part t us.toArray 0).run P w= .ok (.agg us.toArray) w:=by
     intro us hus;simp only [part,Sem.run_bind,kg hok,hag,Result.andThen_ok,if_true,bH hok,hcells,Sem.run_pure];congr 2
     simp [←hus]
    rw [Sem.run_bind,p1 us (by omega),Result.andThen_ok,Sem.run_bind,p1 vs (by omega),Result.andThen_ok] at h0;exact h0
 | false=>
  rw [hag] at hax hay;have hnx: ∀cs,x≠ .agg cs:=by rintro cs rfl;simp at hax
  have hny: ∀cs,y≠ .agg cs:=by rintro cs rfl;simp at hay
  rw [dX hx hnx,dX hy hny] at hc ⊢;have h0:=oN (P:=P) 50 t bs hf [x] [y] [u] [v] 0 m hm hc (fG rfl (bC.cons hx .nil).2) (fG rfl (bC.cons hy .nil).2);have p1: ∀u:Value,(part t [u].toArray 0).run P w= .ok u w:=by
   intro u;simp [part,kg hok,hag]
  rw [Sem.run_bind,p1 u,Result.andThen_ok,Sem.run_bind,p1 v,Result.andThen_ok] at h0;exact h0
theorem fF (w:World)(t:TypeId)(x y:Option Addr×Nat×Nat)(b:Bool)(he: ∀d,(Op.equalIn (d+1) t (.slice x.1 x.2.1 x.2.2) (.slice y.1 y.2.1 y.2.2)).run P w= .ok b w):
  (binOp .eql t (.slice x.1 x.2.1 x.2.2) (.slice y.1 y.2.1 y.2.2)).run P w= .ok (.bool b) w∧(binOp .neq t (.slice x.1 x.2.1 x.2.2) (.slice y.1 y.2.1 y.2.2)).run P w= .ok (.bool (!b)) w:=by
 have h0:(Op.equal t (.slice x.1 x.2.1 x.2.2) (.slice y.1 y.2.1 y.2.2)).run P w= .ok b w:=he 9999;constructor
 ·simp only [binOp,Sem.run_bind,h0,Result.andThen_ok,Sem.run_pure]
 ·simp only [binOp,Sem.run_bind,h0,Result.andThen_ok,Sem.run_pure]
theorem Jb {op:BinOp} {t:TypeId} {X Y:Operand} {x y:AV} {u v:Value} (hx:aJ J O w x u)(hy:aJ J O w y v)(hok:EB P op t x y):
  ∃r,(do eqGuard op t X Y u v;binOp op t u v).run P w= .ok r w∧aJ J O w (RZ op x y) r:=by
 unfold EB at hok;split at hok
 ·cases hx;cases hy;exact JE op t X Y _ _ _ _ hok
 ·cases hx;cases hy;exact Kn op t X Y _ _ hok
 ·cases hx;cases hy
  obtain⟨ho,hk⟩:=hok;obtain⟨d,hu,hd,hok',_⟩:=gm hk (by simp);have hu':P.underlying t=some .bool:=by cases d <;> simp [pQ] at hd;exact hu
  simp only [eqGuard_at_bool,Sem.run_bind,Sem.run_pure,Result.andThen_ok];rcases ho with rfl | rfl
  ·exact⟨_,run_eql_bool w t _ _ hu',.bool _⟩
  ·exact⟨_,run_neq_bool w t _ _ hu',.bool _⟩
 ·rename_i xs ys
  cases hx with
  | agg _ us hl1 ho1 h1=>
   cases hy with
   | agg _ vs hl2 ho2 h2=>
    obtain⟨ho,hg,hag,bs,hf,hc⟩:=hok;have he:=Ad (P:=P) hf (.agg xs us hl1 ho1 h1) (.agg ys vs hl2 ho2 h2) (by simp [dA,hag]) (by simp [dA,hag]) hc 10000 (by omega);simp only [ai] at he;rcases ho with rfl | rfl
    ·refine⟨_,?_,.bool _⟩;rw [Sem.run_bind,run_eqGuard_agg w _ _ _ _ _ _ hg,Result.andThen_ok,run_eql_struct,he];rfl
    ·refine⟨_,?_,.bool _⟩;rw [Sem.run_bind,run_eqGuard_agg w _ _ _ _ _ _ hg,Result.andThen_ok,run_neq_struct,he];rfl
 ·cases hx;cases hy
  obtain⟨ho,e,he⟩:=hok;have hu:=(bO he).1;simp only [eqGuard_at_slice,Sem.run_bind,Sem.run_pure,Result.andThen_ok];rcases ho with rfl | rfl
  ·exact⟨_,(fF w t (none,0,0) (none,0,0) true (fun d=>by simp only [Op.equalIn,Sem.run_bind,run_underlying hu,Result.andThen_ok];rfl)).1,.bool _⟩
  ·exact⟨_,(fF w t (none,0,0) (none,0,0) true (fun d=>by simp only [Op.equalIn,Sem.run_bind,run_underlying hu,Result.andThen_ok];rfl)).2,.bool _⟩
 ·cases hx;cases hy
  obtain⟨ho,e,he⟩:=hok;have hu:=(bO he).1;simp only [eqGuard_at_slice,Sem.run_bind,Sem.run_pure,Result.andThen_ok];rcases ho with rfl | rfl
  ·exact⟨_,(fF w t (some _,_,_) (none,0,0) false (fun d=>by simp only [Op.equalIn,Sem.run_bind,run_underlying hu,Result.andThen_ok];rfl)).1,.bool _⟩
  ·exact⟨_,(fF w t (some _,_,_) (none,0,0) false (fun d=>by simp only [Op.equalIn,Sem.run_bind,run_underlying hu,Result.andThen_ok];rfl)).2,.bool _⟩
 ·exact hok.elim
theorem L9 {op:UnOp} {x:AV} {u:Value} (hx:aJ J O w x u)(hok:KZ op x): ∃r,(Op.unary op u).run P w= .ok r w∧aJ J O w (VU op x) r:=by
 unfold KZ at hok;split at hok
 ·cases hx;exact⟨_,by simp [Op.unary,Op.intArith],.int _ _⟩
 ·cases hx;exact⟨_,by simp [Op.unary],.bool _⟩
 ·exact hok.elim
theorem Gj {src dst:TypeId} {x:AV} {u:Value} (hx:aJ J O w x u)(hok:ED P src dst x): ∃r,(convert src dst u).run P w= .ok r w∧aJ J O w (Gi P dst x) r:=by
 obtain⟨hs,hok⟩:=hok;obtain⟨ds,is,hds,_,_⟩:=dw hs;split at hok
 ·rename_i k k' n hk;obtain⟨d,hu,hd,_,_⟩:=gm hk (by simp);have hu':P.underlying dst=some (.int k):=by cases d <;> simp [pQ] at hd;subst hd;exact hu
  cases hx
  refine⟨_,?_,by simp only [Gi,hk];exact .int _ _⟩;simp only [convert,Sem.run_bind,run_underlying hds,run_underlying hu',Result.andThen_ok];cases ds <;> rfl
 ·rename_i s hk;obtain⟨d,hu,hd,_,_⟩:=gm hk (by simp);have hu':P.underlying dst=some .string:=by cases d <;> simp [pQ] at hd;exact hu
  cases hx
  refine⟨_,?_,by simp only [Gi,hk];exact .str _⟩;simp only [convert,Sem.run_bind,run_underlying hds,run_underlying hu',Result.andThen_ok];cases ds <;> rfl
 ·exact hok.elim
theorem uu {x:AV} {v:Value} (hx:aJ J O w x v)(hi:isInt x): ∃k,v= .int k (gT x):=by
 unfold isInt at hi;split at hi
 ·cases hx;exact⟨_,rfl⟩
 ·exact hi.elim
theorem j6 {isSlice:Bool} {len cap:Nat} (hlc:len≤cap)(hs:isSlice=false→len=cap) {lo hi:Option Value} {l' h':Option Int} (hl: ∀v∈lo,∃k n,v= .int k n∧l'=some n)(hln:lo=none→l'=none)
  (hh: ∀v∈hi,∃k n,v= .int k n∧h'=some n) (hhn:hi=none→h'=none) (hok:kD len l' h'):
  (Instr.sliceBounds isSlice len cap lo hi none).run P w= .ok ((l'.map Int.toNat).getD 0,gB h' len,cap) w∧(l'.map Int.toNat).getD 0≤gB h' len∧gB h' len≤len:=by
 obtain⟨h1,h2⟩:=hok;have hb:gB h' len≤len:=by
  cases h' with
  | none=>simp [gB]
  | some n=>simp only [yG] at h1;simp [gB];omega
 have ha:(l'.map Int.toNat).getD 0≤gB h' len:=by
  cases l' with
  | none=>simp
  | some n=>simp only [yG] at h2;simp;omega
 refine⟨?_,ha,hb⟩
 cases hi with
 | none=>
  cases lo with
  | none=>
   rw [hln rfl,hhn rfl];simp [Instr.sliceBounds,gB]
  | some v=>
   obtain⟨k,n,rfl,rfl⟩:=hl v rfl;rw [hhn rfl] at h2 ⊢;simp only [yG,gB,Option.map_none,Option.getD_none] at h2;simp [Instr.sliceBounds,gB,run_sliceBound w k n len _ h2.1 h2.2]
 | some u=>
  obtain⟨k,n,rfl,rfl⟩:=hh u rfl;simp only [yG] at h1
  cases lo with
  | none=>
   rw [hln rfl];simp [Instr.sliceBounds,gB,run_sliceBound w k n cap _ h1.1 (by omega)]
  | some v=>
   obtain⟨k',n',rfl,rfl⟩:=hl v rfl;simp only [yG,gB,Option.map_some,Option.getD_some] at h2;simp [Instr.sliceBounds,gB,run_sliceBound w k n cap _ h1.1 (by omega),run_sliceBound w k' n' n.toNat _ h2.1 h2.2]
end
end Go.Abs
end
section
namespace Go.Abs
open Go
section
variable {P : Program} {gl : aM} {J : List dH} {h : ae} {w : World} {O : Nat → Prop} {fr : aH}
def jo (P:Program)(J:List dH)(O:Nat→Prop)(w:World)(s:Sem Value)(x:AV):Prop:= ∃v,s.run P w= .ok v w∧aJ J O w x v
theorem Ho (hh:bI gl h J w) {t:TypeId} {x:AV} {u:Value} (hx:aJ J (Own h J) w x u)(ht:(ah P t).ok=true)
  (hok:loadOk P h t x):jo P J (Own h J) w (Instr.loadAt t u) (loadV P h t x):=by
 unfold loadOk at hok;unfold loadV;split at hok
 ·rename_i b i c;obtain⟨hi,hc⟩:=hok;have hg:(hcells h b)[i]? =some ((hcells h b).getD i []):=by simp [List.getD,zB hi]
  obtain⟨k,hk,rfl,hl,hr⟩:=Ae hh hx hg;obtain⟨v,hv,hvr⟩:=o9 (P:=P) ht hr hc;exact⟨v,by simp only [Instr.loadAt,Instr.sureAddr,Sem.run_bind,Sem.run_pure,Result.andThen_ok,hv],hvr⟩
 ·rename_i es i c;obtain⟨hi,hc⟩:=hok;have hg:es[i]? =some (es.getD i []):=by simp [List.getD,zB hi]
  obtain⟨a,rfl,hr⟩:=GJ hx hg;obtain⟨v,hv,hvr⟩:=o9 (P:=P) ht hr hc;exact⟨v,by simp only [Instr.loadAt,Instr.sureAddr,Sem.run_bind,Sem.run_pure,Result.andThen_ok,hv],hvr⟩
 ·exact hok.elim
theorem xX {t:TypeId} {f:Nat} (hf:f<(fieldsOf (ah P t)).length): ∃fs fd,P.underlying t=some (.struct fs)∧fs[f]? =some fd∧mf (ah P t) f=fd.offset∧OD (ah P t) f=P.cellsOf fd.type∧fty (ah P t) f=fd.type∧(ah P t).ok=true:=by
 unfold fieldsOf at hf;split at hf
 ·rename_i l hk;obtain⟨d,hu,hd,hok,_⟩:=gm hk (by simp)
  cases d with
  | struct fs=>
   simp only [pQ,TK.struct.injEq] at hd;subst hd;simp only [List.length_map,Array.length_toList] at hf;have hg:fs[f]? =some (fs[f]'hf):=Array.getElem?_eq_getElem hf;refine⟨fs,fs[f]'hf,hu,hg,?_⟩;simp [mf,OD,fty,fieldsOf,hk,List.getD,hg,hok]
  | _=>simp [pQ] at hd
 ·simp at hf
theorem wY {s:TypeId} {f:Nat} {x:AV} {u:Value} (hx:aJ J O w x u)(hf:f<(fieldsOf (ah P s)).length)(hsz:0<OD (ah P s) f)(hty:(ah P (fty (ah P s) f)).ok=true)
  (hok:faddrOk x):jo P J O w (Instr.fieldAt s u f) (iX P s f x):=by
 unfold faddrOk at hok;unfold iX;obtain⟨fs,fd,hu,hg,h1,h2,h3,h4⟩:=xX hf;have hrun: ∀a:Addr,(Instr.fieldAt s (.pointer (some a)) f).run P w= .ok (.pointer (some (a.add fd.offset))) w:=by
  intro a;have hc:(sizeOf fd.type).run P w= .ok (ah P fd.type).cells w:=bH (by rw [←h3];exact hty) w;have hne: ¬((ah P fd.type).cells=0):=by
   obtain⟨d,i,hd,hi,e⟩:=dw (by rw [←h3];exact hty:(ah P fd.type).ok=true);rw [e];simp only;rw [h2] at hsz;simp [Program.cellsOf,hi] at hsz;omega
  simp only [Instr.fieldAt,Sem.run_bind,run_underlying hu,Result.andThen_ok,hg,Instr.sureAddr,Sem.run_pure,fieldPlace,hc,Sem.run_ite,if_neg hne]
 split at hok
 ·rename_i b i c
  cases hx with
  | ptr _ _ _ k hb=>
   refine⟨_,hrun _,?_⟩;rw [h1,kQ,show k.base+(i*k.n+c)+fd.offset=k.base+(i*k.n+(c+fd.offset)) by omega];exact .ptr _ _ _ k hb
 ·rename_i es i c
  cases hx with
  | rop _ _ _ a n g hn hO hl hc ho hh=>
   refine⟨_,hrun _,?_⟩;rw [h1,add_add',show i*n+c+fd.offset=i*n+(c+fd.offset) by omega];exact .rop _ _ _ a n g hn hO hl hc ho hh
 ·exact hok.elim
theorem EU {s:TypeId} {f:Nat} {x:AV} {u:Value} (hx:aJ J O w x u)(hf:f<(fieldsOf (ah P s)).length)(hty:(ah P (fty (ah P s) f)).ok=true)
  (hok:y5 P s f x):jo P J O w (Instr.field s u f) (ET P s f x):=by
 unfold y5 at hok;unfold ET;obtain⟨fs,fd,hu,hg,h1,h2,h3,h4⟩:=xX hf;split at hok
 ·rename_i cs;rw [h3] at hty hok ⊢;rw [h1] at hok ⊢;obtain⟨vs,rfl,r,hr,hrv⟩:=Bh (P:=P) hty hx hok;exact⟨r,by simp only [Instr.field,Sem.run_bind,run_underlying hu,Result.andThen_ok,hg,asAgg,Sem.run_pure,hr],hrv⟩
 ·exact hok.elim
theorem o8 {t:TypeId} {n:Nat} {e:TypeId} (h:(ah P t).kind= .array n e):P.underlying t=some (.array n e)∧(ah P t).ok=true:=by
 obtain⟨d,hu,hd,hok,_⟩:=gm h (by simp);cases d <;> simp [pQ] at hd
 obtain⟨rfl,rfl⟩:=hd;exact⟨hu,hok⟩
theorem qU {t:TypeId} (h:(ah P t).kind= .string):P.underlying t=some .string∧(ah P t).ok=true:=by
 obtain⟨d,hu,hd,hok,_⟩:=gm h (by simp);cases d <;> simp [pQ] at hd
 exact⟨hu,hok⟩
theorem mo {t k e:TypeId} (h:(ah P t).kind= .map k e):P.underlying t=some (.map k e)∧(ah P t).ok=true:=by
 obtain⟨d,hu,hd,hok,_⟩:=gm h (by simp);cases d <;> simp [pQ] at hd
 obtain⟨rfl,rfl⟩:=hd;exact⟨hu,hok⟩
theorem GY (hh:bI gl h J w) {b:Nat} {k:dH} (hb:J[b]? =some k)(hp:0<hsz h b): ∃es,h[b]? =some (.cells k.n es)∧hsz h b=k.n∧hcells h b=es:=by
 unfold hsz at hp;split at hp
 ·rename_i n es he;obtain⟨hkn,hn,hcap,hlen,_⟩:=hh.obj b k _ hb he;subst hkn;exact⟨es,he,by simp [hsz,he],by simp [hcells,he]⟩
 ·simp at hp
theorem xc (hh:bI gl h J w) {t:TypeId} {x y:AV} {u v:Value} (hx:aJ J (Own h J) w x u)(hy:aJ J (Own h J) w y v)(hi:isInt y)(h0:0≤gT y)
  (hok:iaddrOk P h (ah P t).kind x (gT y)):jo P J (Own h J) w (Instr.indexAt t u v) (cz P (ah P t).kind x (gT y)):=by
 unfold iaddrOk at hok;unfold cz;obtain⟨k,rfl⟩:=uu hy hi;generalize gT y=n at*;split at hok
 ·rename_i e b off len hk;obtain⟨he,h1,h2,h3⟩:=hok;obtain⟨hu,_⟩:=bO hk
  cases hx with
  | own _ _ _ kb a cap hb ha hlen hcap=>
   have hp:0<hsz h b:=by
    have h4:0<(hcells h b).length:=by omega
    unfold hcells at h4;unfold hsz;split at h4
    ·rename_i n' es he';obtain⟨hkn,hn,_⟩:=hh.obj b kb _ hb he';first | omega | (simp only [he'];omega)
    ·simp at h4
   obtain⟨es,_,hn,_⟩:=GY hh hb hp;have hsz:=bH he w;rw [←h3,hn] at hsz;have ha':=ha (by omega);refine⟨_,?_,.ptr b (off+n.toNat) 0 kb hb⟩;simp only [Instr.indexAt,asIntOf,Sem.run_bind,Sem.run_pure,Result.andThen_ok,run_underlying hu];rw [Sem.run_ite,if_pos ⟨h0,h1⟩];simp only [Sem.run_bind,hsz,Result.andThen_ok,Sem.run_pure];rw [ha',kQ,show kb.base+off*kb.n+n.toNat* kb.n=kb.base+((off+n.toNat)*kb.n+0) by rw [Nat.add_mul];omega]
 ·rename_i e es hk;obtain⟨he,h1,h2⟩:=hok;obtain⟨hu,_⟩:=bO hk
  cases hx with
  | roNil=>simp at h1;omega
  | ro _ a m cap f hcap hn hO hl hc ho hr=>
   have hlt:n.toNat<es.length:=by omega
   have hg:es[n.toNat]? =some (es.getD n.toNat []):=by simp [List.getD,zB hlt]
   have hm:=hl _ _ hg;have hsz:=bH he w;rw [←h2,hm] at hsz;refine⟨_,?_,.rop es n.toNat 0 a m f hn hO hl hc ho hr⟩;simp only [Instr.indexAt,asIntOf,Sem.run_bind,Sem.run_pure,Result.andThen_ok,run_underlying hu];rw [Sem.run_ite,if_pos ⟨h0,h1⟩];simp only [Sem.run_bind,hsz,Result.andThen_ok,Sem.run_pure,Nat.add_zero]
 ·rename_i m e b i c hk;obtain⟨he,h1⟩:=hok;obtain⟨hu,_⟩:=o8 hk
  cases hx with
  | ptr _ _ _ kb hb=>
   refine⟨_,?_,.ptr b i (c+n.toNat* (ah P e).cells) kb hb⟩;simp only [Instr.indexAt,asIntOf,Instr.sureAddr,Sem.run_bind,Sem.run_pure,Result.andThen_ok,run_underlying hu];rw [Sem.run_ite,if_pos ⟨h0,h1⟩];simp only [Sem.run_bind,bH he,Result.andThen_ok,Sem.run_pure];rw [kQ,show kb.base+(i*kb.n+c)+n.toNat* (ah P e).cells=kb.base+(i*kb.n+(c+n.toNat* (ah P e).cells)) by omega]
 ·rename_i m e es i c hk;obtain⟨he,h1⟩:=hok;obtain⟨hu,_⟩:=o8 hk
  cases hx with
  | rop _ _ _ a q f hn hO hl hc ho hr=>
   refine⟨_,?_,.rop es i (c+n.toNat* (ah P e).cells) a q f hn hO hl hc ho hr⟩;simp only [Instr.indexAt,asIntOf,Instr.sureAddr,Sem.run_bind,Sem.run_pure,Result.andThen_ok,run_underlying hu];rw [Sem.run_ite,if_pos ⟨h0,h1⟩];simp only [Sem.run_bind,bH he,Result.andThen_ok,Sem.run_pure];rw [add_add',show i*q+c+n.toNat* (ah P e).cells=i*q+(c+n.toNat* (ah P e).cells) by omega]
 ·exact hok.elim
theorem E5 {t:TypeId} {x y:AV} {u v:Value} (hx:aJ J O w x u)(hy:aJ J O w y v)(hi:isInt y)(h0:0≤gT y)
  (hok:y7 P (ah P t).kind x (gT y)):jo P J O w (Instr.index t u v) (EZ P (ah P t).kind x (gT y)):=by
 unfold y7 at hok;unfold EZ;obtain⟨k,rfl⟩:=uu hy hi;generalize gT y=n at*;split at hok
 ·rename_i s hk;obtain⟨hu,_⟩:=qU hk;cases hx
  have hlt:n.toNat<s.length:=by omega
  refine⟨_,?_,.int _ _⟩;have e1:(⟨s.toArray⟩:ByteArray)[n.toNat]? =some (s[n.toNat]'hlt):=by
   rw [ByteArray.getElem?_lt' _ _ (by simpa [ByteArray.size] using hlt)];rfl
  simp only [Instr.index,asIntOf,Sem.run_bind,Sem.run_pure,Result.andThen_ok,run_underlying hu,if_pos h0,e1];simp [List.getD,hlt]
 ·rename_i m e cs hk;obtain⟨he,h1,h2⟩:=hok;obtain⟨hu,_⟩:=o8 hk;obtain⟨vs,rfl,r,hr,hrv⟩:=Bh (P:=P) he hx h2;refine⟨r,?_,hrv⟩;simp only [Instr.index,asIntOf,Sem.run_bind,Sem.run_pure,Result.andThen_ok,run_underlying hu];rw [Sem.run_ite,if_pos ⟨h0,h1⟩];simp only [Sem.run_bind,bH he,Result.andThen_ok,hr]
 ·exact hok.elim
end
end Go.Abs
end
end
section
section
namespace Go.Abs
open Go
section
variable {P : Program} {gl : aM} {J : List dH} {h : ae} {w : World} {O : Nat → Prop} {fr : aH}
theorem uO (em:Bool)(m:Nat)(t:TypeId)(v:Value) {d:TypeDesc} (hu:P.underlying t=some d)(hd:(∃k,d= .int k)∨d= .string∨d= .bool):
  (Instr.checkKey em (m+1) t v).run P w= .ok () w:=by
 rcases hd with⟨k,rfl⟩ | rfl | rfl <;>
 ·simp only [Instr.checkKey,Sem.run_bind,run_underlying hu,Result.andThen_ok];cases v <;> rfl
theorem oK (em:Bool): ∀(d:Nat) (t:TypeId) (bs:List BK),flat P d t=some bs→ ∀(xs:List AV) (us:List Value) (off:Nat) (m:Nat),d≤m→xs.length=bs.length→iG J O w xs us off→
  (part t us.toArray off>>=fun a=>Instr.checkKey em m t a).run P w= .ok () w
 | 0,_,_,hf=>by simp [flat] at hf
 | d+1,t,bs,hf=>by
  intro xs us off m hm hl hxs;obtain⟨m,rfl⟩: ∃m',m=m'+1:=⟨m - 1,by omega⟩;by_cases hst: ∃fs,P.underlying t=some (.struct fs)
  ·obtain⟨fs,hu⟩:=hst;have hf':=hf;unfold flat at hf'
   cases hi:P.info? t with
   | none=>simp [hu,hi] at hf'
   | some i=>
   simp only [hu,hi] at hf';split at hf'
   ·simp at hf'
   split at hf'
   ·rename_i r hr;split at hf'
    ·rename_i hlen;injection hf' with hf';subst hf';have hp1:(part t us.toArray off).run P w= .ok (.agg (us.toArray.extract off (off+r.length))) w:=by
      simp only [part,Sem.run_bind,fU hu,Result.andThen_ok,pW,if_true,sizeOf,typeInfo,run_program,hi,Sem.run_pure,hlen]
     rw [Sem.run_bind,hp1,Result.andThen_ok];have e1:us.toArray.extract off (off+r.length)=((us.drop off).take r.length).toArray:=by
      simp [List.extract_toArray,List.extract_eq_take_drop]
     rw [e1];have s1:iG J O w xs ((us.drop off).take r.length) 0:=by
      intro i x hx;obtain⟨u,h1,h2⟩:=hxs i x hx;have hi':i<r.length:=by
       rw [←hl];exact (zA.1 hx).1
      exact⟨u,by rw [Nat.zero_add,List.getElem?_take_of_lt hi',List.getElem?_drop];exact h1,h2⟩
     generalize (us.drop off).take r.length=us' at s1 ⊢;simp only [Instr.checkKey,Sem.run_bind,run_underlying hu,Result.andThen_ok];rw [←Array.forIn_toList];have key: ∀(l:List Field) (o:Nat) (r:List BK),iY (flat P d) o l=some r→ ∀(xs:List AV),xs.length=r.length→iG J O w xs us' o→ ∀(body:Field→PUnit→Sem (ForInStep PUnit)),
       (∀f u,f∈l→(body f u)=(if f.name≠ "_" then (do let a ←part f.type us'.toArray f.offset;Instr.checkKey em m f.type a;pure (ForInStep.yield PUnit.unit)) else pure (ForInStep.yield PUnit.unit)))→
       (forIn l PUnit.unit body).run P w= .ok PUnit.unit w:=by
      intro l
      induction l with
      | nil=>intro o r hr xs hl _ body hb;simp
      | cons f l ih=>
       intro o r hr xs hl hx body hb;unfold iY at hr;split at hr
       ·rename_i hname;split at hr
        ·rename_i b hb';split at hr
         ·rename_i r' hr';injection hr with hr;subst hr;simp only [List.length_append] at hl;have h1:=oK em d f.type b hb' (xs.take b.length) us' f.offset m (by omega) (by simp;omega) (by rw [hname.2];exact kr hx);have h2:=ih (o+b.length) r' hr' (xs.drop b.length) (by simp;omega) (ko hx) body (fun f' u hf'=>hb f' u (by simp [hf']));simp only [List.forIn_cons,Sem.run_bind];rw [hb f _ (by simp),if_pos hname.1];simp only [Sem.run_bind] at h1 ⊢;generalize (part f.type us'.toArray f.offset).run P w=r1 at h1 ⊢
          cases r1 with
          | halt=>simp [Result.andThen] at h1
          | ok a w1=>
           simp only [Result.andThen_ok] at h1 ⊢;rw [h1];simpa using h2
         ·simp at hr
        ·simp at hr
       ·simp at hr
     have:=key fs.toList 0 r hr xs hl s1 (fun f r=>if f.name≠ "_" then (do let a ←part f.type us'.toArray f.offset;Instr.checkKey em m f.type a;pure (ForInStep.yield PUnit.unit)) else pure (ForInStep.yield PUnit.unit)) (fun _ _ _=>rfl);rw [this];rfl
    ·simp at hf'
   ·simp at hf'
  ·by_cases har: ∃n e,P.underlying t=some (.array n e)
   ·obtain⟨len,e,hu⟩:=har;have hf':=hf;unfold flat at hf'
    cases hi:P.info? t with
    | none=>simp [hu,hi] at hf'
    | some i=>
    simp only [hu,hi] at hf';split at hf'
    ·rename_i r hr;split at hf'
     ·rename_i hlen;injection hf' with hf';have hsz:(sizeOf e).run P w= .ok r.length w:=by
       have h0:=hlen.2
       cases d with
       | zero=>simp [flat] at hr
       | succ d=>
        cases hie:P.info? e with
        | none=>
         unfold flat at hr;rw [hie] at hr;cases hue:P.underlying e <;> simp [hue] at hr
        | some ie=>simp [Program.cellsOf,hie] at h0;simp [sizeOf,typeInfo,hie,h0]
      have hbl:bs.length=i.size:=by
       rw [←hf',←hlen.1,List.length_flatMap,List.map_const',List.length_range,List.sum_replicate_nat]
      have hp:(part t us.toArray off).run P w= .ok (.agg (us.toArray.extract off (off+bs.length))) w:=by
       simp only [part,Sem.run_bind,fU hu,Result.andThen_ok,pW,if_true,sizeOf,typeInfo,run_program,hi,Sem.run_pure,hbl]
      rw [Sem.run_bind,hp,Result.andThen_ok];have e1:us.toArray.extract off (off+bs.length)=((us.drop off).take bs.length).toArray:=by
       simp [List.extract_toArray,List.extract_eq_take_drop]
      rw [e1];have s1:iG J O w xs ((us.drop off).take bs.length) 0:=by
       intro i x hx;obtain⟨u,h1,h2⟩:=hxs i x hx;have hi':i<bs.length:=by
        rw [←hl];exact (zA.1 hx).1
       exact⟨u,by rw [Nat.zero_add,List.getElem?_take_of_lt hi',List.getElem?_drop];exact h1,h2⟩
      generalize (us.drop off).take bs.length=us' at s1 ⊢;simp only [Instr.checkKey,Sem.run_bind,run_underlying hu,Result.andThen_ok];simp only [Std.Legacy.Range.forIn_eq_forIn_range',Std.Legacy.Range.size,Nat.sub_zero,Nat.add_sub_cancel,Nat.div_one];have key: ∀(k s:Nat) (xs:List AV),xs.length=k*r.length→iG J O w xs us' (s*r.length)→ ∀(body:Nat→PUnit→Sem (ForInStep PUnit)),
        (∀i u,(body i u).run P w=(do let n ←sizeOf e;let a ←part e us'.toArray (i*n);Instr.checkKey em m e a;pure (ForInStep.yield PUnit.unit)).run P w)→
        (forIn (List.range' s k) PUnit.unit body).run P w= .ok PUnit.unit w:=by
       intro k
       induction k with
       | zero=>intro s xs _ _ body _;simp
       | succ k ih=>
        intro s xs hlx hx body hb;rw [Nat.add_mul,Nat.one_mul] at hlx;have h1:=oK em d e r hr (xs.take r.length) us' (s*r.length) m (by omega) (by simp;omega) (kr hx);have h2:=ih (s+1) (xs.drop r.length) (by simp;omega) (by rw [Nat.add_mul,Nat.one_mul];exact ko hx) body hb;rw [List.range'_succ];simp only [List.forIn_cons,Sem.run_bind];rw [hb s _];simp only [Sem.run_bind,hsz,Result.andThen_ok] at h1 ⊢;generalize (part e us'.toArray (s*r.length)).run P w=r1 at h1 ⊢
        cases r1 with
        | halt=>simp [Result.andThen] at h1
        | ok a w1=>
         simp only [Result.andThen_ok] at h1 ⊢;rw [h1];simpa using h2
      have hb':bs.length=len*r.length:=by rw [hbl,←hlen.1]
      rw [key len 0 xs (by rw [hl,hb']) (by simpa using s1) _ (fun i u=>by simp only [Sem.run_bind,hsz,Result.andThen_ok])];rfl
     ·simp at hf'
    ·simp at hf'
   ·have hb:=Am hf (fun fs h=>hst ⟨fs,h⟩) (fun n e h=>har ⟨n,e,h⟩);have hd: ∃dd,P.underlying t=some dd∧((∃k,dd= .int k)∨dd= .string∨dd= .bool)∧bs.length=1:=by
     rcases hb with⟨k,hu,rfl⟩ | ⟨hu,rfl⟩ | ⟨hu,rfl⟩
     ·exact⟨_,hu,.inl ⟨k,rfl⟩,rfl⟩
     ·exact⟨_,hu,.inr (.inl rfl),rfl⟩
     ·exact⟨_,hu,.inr (.inr rfl),rfl⟩
    obtain⟨dd,hu,hdd,hbl⟩:=hd;obtain⟨x,rfl⟩:=List.length_eq_one_iff.1 (hl.trans hbl);obtain⟨u,h1,h2⟩:=hxs 0 x (by simp);have hp:(part t us.toArray off).run P w= .ok u w:=by
     have hag:pW dd=false:=by rcases hdd with⟨k,rfl⟩ | rfl | rfl <;> rfl
     simp only [part,Sem.run_bind,fU hu,Result.andThen_ok,hag,Bool.false_eq_true,if_false];have:us.toArray[off]? =some u:=by simpa using h1
     rw [this];rfl
    rw [Sem.run_bind,hp,Result.andThen_ok,uO em m t u hu hdd]
theorem rU (em:Bool) {t:TypeId} {k:AV} {v:Value} {kvs:List (AV×AV)} (hk:aW P t k kvs)(hv:aJ J O w k v):(Instr.checkKey em 10000 t v).run P w= .ok () w:=by
 obtain⟨ha,bs,hf,hc,hxx⟩:=hk;clear hxx;have hl:=(eY _ _ _ hc).1;have hok:=oP hf;have hcells:=Ao hf;unfold dA at ha
 cases hag:(ah P t).agg with
 | true=>
  rw [hag] at ha;cases k <;> simp only at ha
  rename_i xs;simp only [ai] at hl
  cases hv with
  | agg _ us hl1 ho1 h1=>
   have h0:=oK (P:=P) em 50 t bs hf xs us 0 10000 (by omega) hl (fG hl1 h1);have p1:(part t us.toArray 0).run P w= .ok (.agg us.toArray) w:=by
    simp only [part,Sem.run_bind,kg hok,hag,Result.andThen_ok,if_true,bH hok,hcells,Sem.run_pure];congr 2
    simp [←hl,hl1]
   rwa [Sem.run_bind,p1,Result.andThen_ok] at h0
 | false=>
  rw [hag] at ha;have hnx: ∀cs,k≠ .agg cs:=by rintro cs rfl;simp at ha
  rw [dX hv hnx] at hl;have h0:=oK (P:=P) em 50 t bs hf [k] [v] 0 10000 (by omega) hl (fG rfl (bC.cons hv .nil).2);have p1:(part t [v].toArray 0).run P w= .ok v w:=by
   simp [part,kg hok,hag]
  rwa [Sem.run_bind,p1,Result.andThen_ok] at h0
def mQ (kvs:List (AV×AV))(k:AV):Option Nat:=kvs.findIdx? fun p=>iW (ai k) (ai p.1)
theorem CZ {t:TypeId} {d:TypeDesc} (hu:P.underlying t=some d) {k p:AV} {u v:Value} (hk:aJ J O w k u)(hp:aJ J O w p v) {bs:List BK} (hf:flat P 50 t=some bs)(hak:dA (ah P t) k)(hap:dA (ah P t) p)
  (hc:lF bs (ai k) (ai p)):Instr.sameNow d u v=some (iW (ai k) (ai p))∨Instr.sameNow d u v=none:=by
 cases d with
 | int kd=>
  have hag:(ah P t).agg=false:=by
   obtain⟨d',i,hd,hi,e⟩:=dw (oP hf);rw [e];rw [hu] at hd;injection hd with hd;subst hd;rfl
  unfold dA at hak hap;rw [hag] at hak hap;have hnk: ∀cs,k≠ .agg cs:=by rintro cs rfl;simp at hak
  have hnp: ∀cs,p≠ .agg cs:=by rintro cs rfl;simp at hap
  rw [dX hk hnk,dX hp hnp] at hc ⊢;obtain⟨b,rfl⟩:=List.length_eq_one_iff.1 ((eY _ _ _ hc).1.symm);simp only [lF,and_true] at hc;unfold zX at hc;split at hc
  ·cases hk;cases hp
   subst hc;left;simp [Instr.sameNow,iW,lC]
  ·right;cases hk;cases hp;rfl
  ·right;cases hk;cases hp;rfl
  ·exact hc.elim
 | string=>
  have hag:(ah P t).agg=false:=by
   obtain⟨d',i,hd,hi,e⟩:=dw (oP hf);rw [e];rw [hu] at hd;injection hd with hd;subst hd;rfl
  unfold dA at hak hap;rw [hag] at hak hap;have hnk: ∀cs,k≠ .agg cs:=by rintro cs rfl;simp at hak
  have hnp: ∀cs,p≠ .agg cs:=by rintro cs rfl;simp at hap
  rw [dX hk hnk,dX hp hnp] at hc ⊢;obtain⟨b,rfl⟩:=List.length_eq_one_iff.1 ((eY _ _ _ hc).1.symm);simp only [lF,and_true] at hc;unfold zX at hc;split at hc
  ·right;cases hk;cases hp;rfl
  ·cases hk;cases hp
   left
   simp [Instr.sameNow,iW,lC,beq_toListBytes,F9]
  ·right;cases hk;cases hp;rfl
  ·exact hc.elim
 | bool=>
  have hag:(ah P t).agg=false:=by
   obtain⟨d',i,hd,hi,e⟩:=dw (oP hf);rw [e];rw [hu] at hd;injection hd with hd;subst hd;rfl
  unfold dA at hak hap;rw [hag] at hak hap;have hnk: ∀cs,k≠ .agg cs:=by rintro cs rfl;simp at hak
  have hnp: ∀cs,p≠ .agg cs:=by rintro cs rfl;simp at hap
  rw [dX hk hnk,dX hp hnp] at hc ⊢;obtain⟨b,rfl⟩:=List.length_eq_one_iff.1 ((eY _ _ _ hc).1.symm);simp only [lF,and_true] at hc;unfold zX at hc;split at hc
  ·right;cases hk;cases hp;rfl
  ·right;cases hk;cases hp;rfl
  ·cases hk;cases hp
   left
   simp [Instr.sameNow,iW,lC]
  ·exact hc.elim
 | _=>right;cases u <;> cases v <;> rfl
def foundAt (kvs:List (AV×AV))(k:AV)(es:List MapEntry)(i:Nat):Option (Nat×Value):=match mQ kvs k with
 | some j=>(es[j]?).map fun e=>(i+j,e.val)
 | none=>none
theorem og {p:AV×AV} {kvs:List (AV×AV)} {k:AV} {e:MapEntry} {es:List MapEntry} {i:Nat} (h:iW (ai k) (ai p.1)=true):foundAt (p::kvs) k (e::es) i=some (i,e.val):=by
 simp [foundAt,mQ,List.findIdx?_cons,h]
theorem nk {p:AV×AV} {kvs:List (AV×AV)} {k:AV} {e:MapEntry} {es:List MapEntry} {i:Nat} (h:iW (ai k) (ai p.1)=false):foundAt (p::kvs) k (e::es) i=foundAt kvs k es (i+1):=by
 simp only [foundAt,mQ,List.findIdx?_cons,h,Bool.false_eq_true,if_false]
 cases hx:kvs.findIdx? (fun p=>iW (ai k) (ai p.1)) with
 | none=>simp
 | some j=>
  simp only [Option.map_some,List.getElem?_cons_succ]
  cases es[j]? with
  | none=>rfl
  | some e=>simp only [Option.map_some,Option.some.injEq,Prod.mk.injEq,and_true];omega
theorem nY {t:TypeId} {k:AV} {u:Value} (hk:aJ J O w k u): ∀(kvs:List (AV×AV)) (es:List MapEntry) (i:Nat),aW P t k kvs→es.length=kvs.length→
  (∀(i:Nat) (e:MapEntry) (p:AV×AV),es[i]? =some e→kvs[i]? =some p→aJ J O w p.1 e.key)→(Instr.findAsking t u es i).run P w= .ok (foundAt kvs k es i) w
 | [],[],i,_,_,_=>by simp [Instr.findAsking,foundAt,mQ]
 | [],_::_,_,_,h,_=>by simp at h
 | _::_,[],_,_,h,_=>by simp at h
 | p::kvs,e::es,i,hok,hl,hr=>by
  obtain⟨ha,bs,hf,hc,hall⟩:=hok;obtain⟨hap,hcp⟩:=hall p (by simp);have he:=Ad (P:=P) hf hk (hr 0 e p rfl rfl) ha hap hcp 10000 (by omega);have he':(Op.equal t u e.key).run P w= .ok (iW (ai k) (ai p.1)) w:=he;simp only [Instr.findAsking,Sem.run_bind,he',Result.andThen_ok]
  cases hcc:iW (ai k) (ai p.1) with
  | true=>rw [og hcc];simp
  | false=>
   rw [nk hcc];simp only [Bool.false_eq_true,if_false];exact nY hk kvs es (i+1) ⟨ha,bs,hf,hc,fun q hq=>hall q (by simp [hq])⟩ (by simpa using hl) (fun j e' p' h1 h2=>hr (j+1) e' p' (by simpa using h1) (by simpa using h2))
theorem tJ {t:TypeId} {d:TypeDesc} (hu:P.underlying t=some d) {k:AV} {u:Value} (hk:aJ J O w k u): ∀(kvs:List (AV×AV)) (es:List MapEntry) (i:Nat),aW P t k kvs→es.length=kvs.length→
  (∀(i:Nat) (e:MapEntry) (p:AV×AV),es[i]? =some e→kvs[i]? =some p→aJ J O w p.1 e.key)→Instr.findNow d u es i=some (foundAt kvs k es i)∨Instr.findNow d u es i=none
 | [],[],i,_,_,_=>by simp [Instr.findNow,foundAt,mQ]
 | [],_::_,_,_,h,_=>by simp at h
 | _::_,[],_,_,h,_=>by simp at h
 | p::kvs,e::es,i,hok,hl,hr=>by
  obtain⟨ha,bs,hf,hc,hall⟩:=hok;obtain⟨hap,hcp⟩:=hall p (by simp);rcases CZ hu hk (hr 0 e p rfl rfl) hf ha hap hcp with h1 | h1
  ·simp only [Instr.findNow,h1]
   cases hcc:iW (ai k) (ai p.1) with
   | true=>left;rw [og hcc]
   | false=>
    rw [nk hcc];exact tJ hu hk kvs es (i+1) ⟨ha,bs,hf,hc,fun q hq=>hall q (by simp [hq])⟩ (by simpa using hl) (fun j e' p' h1 h2=>hr (j+1) e' p' (by simpa using h1) (by simpa using h2))
  ·right;simp [Instr.findNow,h1]
theorem kC {t:TypeId} {k:AV} {u:Value} (hk:aJ J O w k u) {kvs:List (AV×AV)} {es:List MapEntry} (hok:aW P t k kvs)(hl:es.length=kvs.length)
  (hr: ∀(i:Nat) (e:MapEntry) (p:AV×AV),es[i]? =some e→kvs[i]? =some p→aJ J O w p.1 e.key):(Instr.findKey t u es).run P w= .ok (foundAt kvs k es 0) w:=by
 obtain⟨d,i,hu,_,_⟩:=dw (oP hok.2.choose_spec.1);simp only [Instr.findKey,Sem.run_bind,run_underlying hu,Result.andThen_ok];rcases tJ hu hk kvs es 0 hok hl hr with h1 | h1
 ·rw [h1];rfl
 ·rw [h1];exact nY hk kvs es 0 hok hl hr
theorem qB {t:TypeId} (hz:kZ (ah P t)): ∃z,(zeroValue t).run P w= .ok z w∧aJ J O w (jg (ah P t)) z:=by
 obtain⟨hok,hzok,hl⟩:=hz;obtain⟨z,h1,h2,h3,h4⟩:=dW hok hzok w;refine⟨z,h1,?_⟩;unfold jg;have hr:=jd (J:=J) (O:=O) (w:=w) h2;rw [←h3] at hr
 cases hag:(ah P t).agg with
 | true=>
  rw [hag] at h4;cases z <;> simp [E8] at h4
  rename_i cs;have e:cs=cs.toList.toArray:=by simp
  simp only [Value.cells] at hr h2
  conv=>rhs;rw [e]
  exact .agg _ _ hr.1 h2 hr.2
 | false=>
  rw [hag] at h4;have hc:z.cells.toList=[z]:=by cases z <;> first | rfl | simp [E8] at h4
  rw [hc] at h3 hr;rw [h3];exact hr.2 0 _ z (by rw [h3];rfl) rfl
end
end Go.Abs
end
section
namespace Go.Abs
open Go
section
variable {P : Program} {gl : aM} {J : List dH} {h : ae} {w : World} {O : Nat → Prop} {fr : aH}
theorem kM {r:Nat} {o:Obj} (hr:w.heap[r]? =some o)(hn: ∀c e f,o≠ .cells c e f):(getObj r).run P w= .ok o w:=by
 simp only [getObj,Sem.run,hr]
theorem OW (hh:bI gl h J w) {b:Nat} {v:Value} (hv:aJ J (Own h J) w (.map b) v)(hm:isMap h b=true):
  ∃(r:Nat) (es:Array MapEntry) (clock:Nat),v= .map (some r)∧w.heap[r]? =some (.map es clock)∧es.size=(hmap h b).length∧
   ∀(i:Nat) (e:MapEntry) (p:AV×AV),es[i]? =some e→(hmap h b)[i]? =some p→aJ J (Own h J) w p.1 e.key∧aJ J (Own h J) w p.2 e.val:=by
 unfold isMap at hm;split at hm
 ·rename_i kvs hb
  cases hv with
  | map _ k hk=>
   obtain⟨es,clock,h1,h2,h3,_⟩:=hh.obj b k _ hk hb;have e:hmap h b=kvs:=by simp [hmap,hb]
   rw [e];exact⟨k.r,es,clock,rfl,h1,h2,h3⟩
 ·cases hm
theorem Gn {kvs:List (AV×AV)} {k:AV} {es:List MapEntry} (hl:es.length=kvs.length)(hr: ∀(i:Nat) (e:MapEntry) (p:AV×AV),es[i]? =some e→kvs[i]? =some p→aJ J O w p.2 e.val):
  (fJ kvs k=none∧foundAt kvs k es 0=none)∨ ∃x i u,fJ kvs k=some x∧foundAt kvs k es 0=some (i,u)∧aJ J O w x u:=by
 unfold fJ foundAt mQ
 cases hx:kvs.findIdx? (fun p=>iW (ai k) (ai p.1)) with
 | none=>
  left
  refine⟨?_,rfl⟩;rw [List.findIdx?_eq_none_iff] at hx;simp only [Option.map_eq_none_iff,List.find?_eq_none];intro p hp;simp [hx p hp]
 | some j=>
  right
  have hj:=List.findIdx?_eq_some_iff_getElem.1 hx;obtain⟨hlt,h1,h2⟩:=hj;have hf:kvs.find? (fun p=>iW (ai k) (ai p.1))=some kvs[j]:=by
   rw [List.find?_eq_some_iff_getElem];exact⟨h1,j,hlt,rfl,fun i hi=>by simpa using h2 i hi⟩
  have he:es[j]? =some (es[j]'(by omega)):=zB (by omega);refine⟨kvs[j].2,j,(es[j]'(by omega)).val,by simp [hf],by simp [he],hr j _ _ he (zB hlt)⟩
theorem CO (hh:bI gl h J w) {t:TypeId} {x k:AV} {u v:Value} (ok:Bool)(hx:aJ J (Own h J) w x u)(hk:aJ J (Own h J) w k v)(hok:Ff P h (ah P t).kind x k):
  jo P J (Own h J) w (Instr.lookup t u v ok) (Lp P h (ah P t).kind x k ok):=by
 unfold Ff at hok;unfold Lp;split at hok
 ·rename_i kt et b hkd;obtain⟨hu,_⟩:=mo hkd;obtain⟨hm,hz,hks⟩:=hok;obtain⟨r,es,clock,rfl,h1,h2,h3⟩:=OW hh hx hm;obtain⟨z,hz1,hz2⟩:=qB (J:=J) (O:=Own h J) (w:=w) hz;have hg:(getObj r).run P w= .ok (.map es clock) w:=kM h1 (by intros;simp);have hck:=rU (P:=P) es.isEmpty hks hk;have hfk:=kC (P:=P) hk hks (es:=es.toList) (by simpa using h2) (fun i e p h4 h5=>(h3 i e p (by simpa using h4) h5).1);have hal:=Gn (J:=J) (O:=Own h J) (w:=w) (k:=k) (kvs:=hmap h b) (es:=es.toList) (by simpa using h2) (fun i e p h4 h5=>(h3 i e p (by simpa using h4) h5).2);rcases hal with⟨e1,e2⟩ | ⟨y,i,uy,e1,e2,e3⟩
  ·simp only [e1,Option.getD_none,Option.isSome_none]
   cases ok with
   | true=>
    refine⟨_,?_,.tup [jg (ah P et),.bool false] [z,.bool false] rfl (bC.cons hz2 (bC.cons (.bool _) .nil)).2⟩;simp [Instr.lookup,run_underlying hu,hg,hck,hfk,e2,hz1]
   | false=>
    refine⟨_,?_,hz2⟩;simp [Instr.lookup,run_underlying hu,hg,hck,hfk,e2,hz1]
  ·simp only [e1,Option.getD_some,Option.isSome_some]
   cases ok with
   | true=>
    refine⟨_,?_,.tup [y,.bool true] [uy,.bool true] rfl (bC.cons e3 (bC.cons (.bool _) .nil)).2⟩;simp [Instr.lookup,run_underlying hu,hg,hck,hfk,e2]
   | false=>
    refine⟨_,?_,e3⟩;simp [Instr.lookup,run_underlying hu,hg,hck,hfk,e2]
 ·rename_i kt et hkd;obtain⟨hu,_⟩:=mo hkd;obtain⟨hz,hks⟩:=hok;cases hx
  obtain⟨z,hz1,hz2⟩:=qB (J:=J) (O:=Own h J) (w:=w) hz;have hck:=rU (P:=P) true hks hk;have hfk:=kC (P:=P) hk hks (es:=[]) rfl (by simp);have hfa:foundAt [] k [] 0=none:=rfl;rw [hfa] at hfk
  cases ok with
  | true=>
   refine⟨_,?_,.tup [jg (ah P et),.bool false] [z,.bool false] rfl (bC.cons hz2 (bC.cons (.bool _) .nil)).2⟩;simp [Instr.lookup,run_underlying hu,hck,hfk,hz1]
  | false=>
   refine⟨_,?_,hz2⟩;simp [Instr.lookup,run_underlying hu,hck,hfk,hz1]
 ·exact hok.elim
theorem Ai {i:Nat} {x:AV} {u:Value} (hx:aJ J O w x u)(hok:rW i x):jo P J O w (Instr.extract u i) (vI i x):=by
 unfold rW at hok;unfold vI;split at hok
 ·rename_i l
  cases hx with
  | tup _ vs hl hr=>
   have e1:l[i]? =some l[i]:=zB hok;have e2:vs[i]? =some (vs[i]'(by omega)):=zB (by omega);refine⟨vs[i]'(by omega),?_,?_⟩
   ·simp [Instr.extract,e2]
   ·simpa [List.getD,e1] using hr i _ _ e1 e2
 ·exact hok.elim
theorem FX (hh:bI gl h J w) {t:TypeId} {x:AV} {u:Value} {lo hi:Option Value} {l' h':Option Int} (hx:aJ J (Own h J) w x u)(hl: ∀v∈lo,∃k n,v= .int k n∧l'=some n)(hln:lo=none→l'=none)
  (hhi: ∀v∈hi,∃k n,v= .int k n∧h'=some n) (hhn:hi=none→h'=none) (hok:bM P h (ah P t).kind x l' h'):jo P J (Own h J) w (Instr.sliceAt t u lo hi none) (bJ x l' h'):=by
 unfold bM at hok;split at hok
 ·rename_i s hk;obtain⟨hu,_⟩:=qU hk;cases hx
  obtain⟨hb,b1,b2⟩:=j6 (P:=P) (w:=w) (isSlice:=false) (cap:=s.length) (Nat.le_refl _) (fun _=>rfl) hl hln hhi hhn hok;refine⟨_,?_,.str _⟩;have hsz:(⟨s.toArray⟩:ByteArray).size=s.length:=by simp [ByteArray.size]
  simp only [Instr.sliceAt,Instr.slice,Sem.run_bind,run_underlying hu,Result.andThen_ok,hsz];simp only [Option.isSome_none,Bool.false_eq_true,if_false,Sem.run_bind,Sem.run_pure,Result.andThen_ok,hb];congr 2
  apply ByteArray.ext;show _=((s.take (gB h' s.length)).drop ((l'.map Int.toNat).getD 0)).toArray;simp only [ByteArray.data_extract,List.extract_toArray,List.extract_eq_take_drop];congr 1
  rw [List.drop_take]
 ·rename_i e es hk;obtain⟨hu,_⟩:=bO hk;obtain⟨he,hlen,hsl⟩:=hok
  cases hx with
  | roNil=>
   obtain⟨hb,b1,b2⟩:=j6 (P:=P) (w:=w) (isSlice:=true) (cap:=0) (Nat.le_refl _) (fun _=>rfl) hl hln hhi hhn hsl;have e1:(l'.map Int.toNat).getD 0=0:=by simp at b2;omega
   have e2:gB h' 0=0:=by simpa using b2
   refine⟨.slice none 0 0,?_,by simpa [bJ] using aJ.roNil⟩;have hb':(Instr.sliceBounds true 0 0 lo hi none).run P w= .ok ((l'.map Int.toNat).getD 0,gB h' 0,0) w:=hb;rw [e1,e2] at hb';simp only [Instr.sliceAt,Instr.slice,Sem.run_bind,run_underlying hu,Result.andThen_ok,hb',bH he,Sem.run_pure,if_true,Nat.sub_zero]
  | ro _ a n cap f hcap hn hO hl0 hc h1 hr=>
   obtain⟨hb,b1,b2⟩:=j6 (P:=P) (w:=w) (isSlice:=true) (cap:=cap) hcap (by simp) hl hln hhi hhn hsl;have hrun:(Instr.sliceAt t (.slice (some a) es.length cap) lo hi none).run P w= .ok (.slice (if cap=(l'.map Int.toNat).getD 0 then some a else (some a).map (·.add ((l'.map Int.toNat).getD 0*(ah P e).cells))) (gB h' es.length - (l'.map Int.toNat).getD 0) (cap - (l'.map Int.toNat).getD 0)) w:=by
    simp only [Instr.sliceAt,Instr.slice,Sem.run_bind,run_underlying hu,Result.andThen_ok,hb,bH he,Sem.run_pure]
   refine⟨_,hrun,?_⟩;generalize hlo:(l'.map Int.toNat).getD 0=L at*;simp only [bJ,hlo];generalize gB h' es.length=H at*;have hlen':((es.take H).drop L).length=H - L:=by simp;omega
   by_cases hcl:cap=L
   ·have:H - L=0:=by omega
    rw [if_pos hcl,this];have hnil:(es.take H).drop L=[]:=List.eq_nil_of_length_eq_zero (by omega);rw [hnil];exact aJ.ro [] a 1 (cap - L) (fun _ _=>undef) (by simp) (by omega) (.inl rfl) (by simp) (by simp) (by simp) (by simp)
   ·rw [if_neg hcl];simp only [Option.map_some];rw [←hlen'];by_cases hes:es=[]
    ·subst hes;simp only [List.take_nil,List.drop_nil];exact aJ.ro [] _ 1 (cap - L) (fun _ _=>undef) (by simp) (by omega) (.inl rfl) (by simp) (by simp) (by simp) (by simp)
    ·have hcn:(ah P e).cells=n:=by
      obtain⟨y,ys,rfl⟩:=List.exists_cons_of_ne_nil hes;rw [←hlen y (by simp),hl0 0 y rfl]
     rw [hcn];have sub: ∀(i:Nat) (e:List AV),((es.take H).drop L)[i]? =some e→es[L+i]? =some e:=by
      intro i e hi;rw [List.getElem?_drop,List.getElem?_take] at hi;split at hi
      ·exact hi
      ·cases hi
     refine aJ.ro _ (a.add (L*n)) n (cap - L) (fun i c=>f (L+i) c) (by rw [hlen'];omega) hn ?_ ?_ ?_ ?_ ?_
     ·right
      rw [add_block];exact hO.resolve_left hes
     ·intro i e hi;exact hl0 _ e (sub i e hi)
     ·intro i e c x hi hx;rw [add_add',show L*n+(i*n+c)=(L+i)*n+c by rw [Nat.add_mul];omega];exact hc _ e c x (sub i e hi) hx
     ·intro i e c x hi hx;exact h1 _ e c x (sub i e hi) hx
     ·intro i e c x hi hx;exact hr _ e c x (sub i e hi) hx
 ·rename_i e b off len hk;obtain⟨hu,_⟩:=bO hk;obtain⟨he,h0,h1,hsl⟩:=hok
  cases hx with
  | own _ _ _ kb a cap hb ha hlen hcap=>
   obtain⟨es,_,hn,_⟩:=GY hh hb h0;have hcn:(ah P e).cells=kb.n:=by rw [←h1,hn]
   obtain⟨hbd,b1,b2⟩:=j6 (P:=P) (w:=w) (isSlice:=true) (cap:=cap) hlen (by simp) hl hln hhi hhn hsl;have hrun:(Instr.sliceAt t (.slice (some a) len cap) lo hi none).run P w= .ok (.slice (if cap=(l'.map Int.toNat).getD 0 then some a else (some a).map (·.add ((l'.map Int.toNat).getD 0*(ah P e).cells))) (gB h' len - (l'.map Int.toNat).getD 0) (cap - (l'.map Int.toNat).getD 0)) w:=by
    simp only [Instr.sliceAt,Instr.slice,Sem.run_bind,run_underlying hu,Result.andThen_ok,hbd,bH he,Sem.run_pure]
   refine⟨_,hrun,?_⟩;generalize hlo:(l'.map Int.toNat).getD 0=L at*;simp only [bJ,hlo];generalize gB h' len=H at*;by_cases hcl:cap=L
   ·rw [if_pos hcl];exact .own b (off+L) (H - L) kb a (cap - L) hb (by omega) (by omega) (by omega)
   ·rw [if_neg hcl];simp only [Option.map_some];refine .own b (off+L) (H - L) kb _ (cap - L) hb (fun hpos'=> ?_) (by omega) (by omega);rw [ha (by omega),hcn,kQ,show kb.base+off*kb.n+L*kb.n=kb.base+(off+L)*kb.n by rw [Nat.add_mul];omega]
 ·rename_i e hk;obtain⟨hu,_⟩:=bO hk;obtain⟨he,hsl⟩:=hok;cases hx
  obtain⟨hb,b1,b2⟩:=j6 (P:=P) (w:=w) (isSlice:=true) (cap:=0) (Nat.le_refl _) (fun _=>rfl) hl hln hhi hhn hsl;refine⟨.slice none 0 0,?_,.nil⟩;have e2:gB h' 0=0:=by omega
  have e1:(l'.map Int.toNat).getD 0=0:=by omega
  simp only [Instr.sliceAt,Instr.slice,Sem.run_bind,run_underlying hu,Result.andThen_ok,hb,bH he,Sem.run_pure,e1,e2,if_true,Nat.sub_zero]
 ·rename_i e hk;obtain⟨hu,_⟩:=bO hk;obtain⟨he,hsl⟩:=hok
  cases hx with
  | e0 a=>
   obtain⟨hb,b1,b2⟩:=j6 (P:=P) (w:=w) (isSlice:=true) (cap:=0) (Nat.le_refl _) (fun _=>rfl) hl hln hhi hhn hsl;refine⟨.slice a 0 0,?_,.e0 a⟩;have e2:gB h' 0=0:=by omega
   have e1:(l'.map Int.toNat).getD 0=0:=by omega
   simp only [Instr.sliceAt,Instr.slice,Sem.run_bind,run_underlying hu,Result.andThen_ok,hb,bH he,Sem.run_pure,e1,e2,if_true,Nat.sub_zero]
 ·exact hok.elim
theorem getElem?_splice {α:Type} (e:List α)(c:Nat)(cs:List α)(h:c+cs.length≤e.length)(i:Nat):
  (splice e c cs)[i]? =if c≤i∧i<c+cs.length then cs[i - c]? else e[i]? :=by
 unfold splice;have hl:(e.take c).length=c:=by simp;omega
 by_cases h1:i<c
 ·rw [if_neg (by omega),zK,zC (by omega),List.getElem?_take_of_lt h1]
 ·by_cases h2:i<c+cs.length
  ·rw [if_pos ⟨by omega,h2⟩,zK,zD (by omega),zC (by omega),hl]
  ·rw [if_neg (by omega),zK,zD (by omega),zD (by omega),hl,List.getElem?_drop];congr 1
   omega
theorem dV {α:Type} (e:List α)(c:Nat)(cs:List α)(h:c+cs.length≤e.length):(splice e c cs).length=e.length:=by
 simp [splice];omega
theorem foldl_set (off:Nat): ∀(l:List Value) (k:Nat) (cs:Array Value) (i:Nat),
  ((l.zipIdx k).foldl (fun (cs:Array Value) (p:Value×Nat)=>cs.setIfInBounds (off+p.2) p.1) cs)[i]? =if off+k≤i∧i<off+k+l.length∧i<cs.size then l[i - (off+k)]? else cs[i]?
 | [],k,cs,i=>by simp;omega
 | v::l,k,cs,i=>by
  simp only [List.zipIdx_cons,List.foldl_cons];rw [foldl_set off l (k+1) (cs.setIfInBounds (off+k) v) i];simp only [Array.size_setIfInBounds,List.length_cons];by_cases h1:off+(k+1)≤i∧i<off+(k+1)+l.length∧i<cs.size
  ·rw [if_pos h1,if_pos (by omega)];rw [show i - (off+k)=(i - (off+(k+1)))+1 by omega,List.getElem?_cons_succ]
  ·rw [if_neg h1];by_cases h2:off+k=i
   ·subst h2;by_cases h3:off+k<cs.size
    ·rw [if_pos (by omega),Array.getElem?_setIfInBounds_self_of_lt h3];simp
    ·rw [if_neg (by omega)];rw [Array.getElem?_eq_none (by simp;omega),Array.getElem?_eq_none (by omega)]
   ·rw [if_neg (by omega),Array.getElem?_setIfInBounds_ne h2]
theorem xQ (off:Nat)(vs:Array Value)(cs:List Value)(h:off+vs.size≤cs.length):
  (vs.zipIdx.foldl (fun (cs:Array Value) (p:Value×Nat)=>cs.setIfInBounds (off+p.2) p.1) cs.toArray)=(splice cs off vs.toList).toArray:=by
 apply Array.ext_getElem?;intro i;have e:vs.zipIdx.foldl (fun (cs:Array Value) (p:Value×Nat)=>cs.setIfInBounds (off+p.2) p.1) cs.toArray=(vs.toList.zipIdx 0).foldl (fun (cs:Array Value) (p:Value×Nat)=>cs.setIfInBounds (off+p.2) p.1) cs.toArray:=by
  rw [←Array.foldl_toList];congr 1
  simp
 rw [e,foldl_set off vs.toList 0 cs.toArray i];have hg:=getElem?_splice cs off vs.toList (by simpa using h) i;simp only [List.getElem?_toArray,Array.length_toList,Nat.add_zero] at hg ⊢;rw [hg];by_cases h1:off≤i∧i<off+vs.size
 ·rw [if_pos ⟨h1.1,h1.2,by simp;omega⟩,if_pos h1]
 ·rw [if_neg (by omega),if_neg h1]
theorem bC.splice {xs ys:List AV} {us vs:List Value} {c:Nat} (h1:bC J O w xs us)(h2:bC J O w ys vs)(hc:c+ys.length≤xs.length):bC J O w (splice xs c ys) (splice us c vs):=by
 have hl1:=h1.1;have hl2:=h2.1;refine⟨by rw [dV _ _ _ hc,dV _ _ _ (by omega)];exact hl1,fun i x v hx hv=> ?_⟩;rw [getElem?_splice _ _ _ hc] at hx;rw [getElem?_splice _ _ _ (by omega),←hl2] at hv;split at hx
 ·rename_i h;rw [if_pos h] at hv;exact h2.2 _ _ _ hx hv
 ·rename_i h;rw [if_neg h] at hv;exact h1.2 _ _ _ hx hv
theorem A7 {α:Type} {e cs:List α} {c:Nat} {x:α} (h:x∈splice e c cs):x∈e∨x∈cs:=by
 unfold splice at h;simp only [List.mem_append] at h;rcases h with (h | h) | h
 ·exact .inl (List.mem_of_mem_take h)
 ·exact .inr h
 ·exact .inl (List.mem_of_mem_drop h)
theorem mZ {x:AV} {v:Value} (hv:aJ J O w x v)(hs:x.solid=true):bC J O w (ai x) v.cells.toList∧ ∀u∈v.cells.toList,u.oneCell'=true:=by
 cases hv <;> first
  | (simp [AV.solid] at hs;done)
  | skip
 case agg cs vs hl h1 hh=>simp only [ai,Value.cells];exact⟨⟨hl,hh⟩,by simpa using h1⟩
 case lit=>
  rename_i h;cases v <;> first
   | (simp [Value.oneCell'] at h;done)
   | exact⟨bC.cons (.lit _ rfl) .nil,by simp [Value.cells,Value.oneCell']⟩
 all_goals
  refine⟨bC.cons ?_ .nil,by simp [Value.cells,Value.oneCell']⟩;first
   | exact .bool _
   | exact .int _ _
   | exact .str _
   | exact .nil
   | exact .e0 _
   | exact .roNil
   | exact .ro _ _ _ _ _ ‹_› ‹_› ‹_› ‹_› ‹_› ‹_› ‹_›
   | exact .rop _ _ _ _ _ _ ‹_› ‹_› ‹_› ‹_› ‹_› ‹_›
   | exact .own _ _ _ _ _ _ ‹_› ‹_› ‹_› ‹_›
   | exact .ptr _ _ _ _ ‹_›
   | exact .fn _ _ _ _ _ ‹_› ‹_› ‹_› ‹_›
   | exact .map _ _ ‹_›
   | exact .obj _ _ ‹_›
   | exact .iface _ _ _ ‹_›
end
end Go.Abs
end
section
namespace Go.Abs
open Go
section
variable {P : Program} {gl : aM} {J : List dH} {h : ae} {w : World} {O : Nat → Prop} {fr : aH}
def Df (J:List dH)(O:Nat→Prop)(w:World):List (Nat×AV)→List (Nat×Value)→Prop
 | [],[]=>True
 | (i,x)::ps,(j,v)::qs=>i=j∧aJ J O w x v∧Df J O w ps qs
 | _,_=>False
theorem xP {T:TI} {place:Nat→Option (Nat×Nat)} (hp: ∀i,i<(fieldsOf T).length→place i=some (mf T i,OD T i)): ∀(ps:List (Nat×AV)) (qs:List (Nat×Value)) (cs:List AV) (vs:List Value),Df J O w ps qs→bC J O w cs vs→
  (∀v∈vs,v.oneCell'=true)→cs.length=T.cells→vB T ps→ ∃vs',Instr.fill place vs.toArray qs=some vs'.toArray∧bC J O w (yT T ps cs) vs'∧ ∀v∈vs',v.oneCell'=true
 | [],[],cs,vs,_,h1,h2,_,_=>⟨vs,rfl,h1,h2⟩
 | [],_::_,_,_,h,_,_,_,_=>h.elim
 | (_,_)::_,[],_,_,h,_,_,_,_=>h.elim
 | (i,x)::ps,(j,v)::qs,cs,vs,h,h1,h2,hl,hok=>by
  obtain⟨rfl,hv,hps⟩:=h;obtain⟨hs,hi,hlen,hle,hok'⟩:=hok;obtain⟨hc1,hc2⟩:=mZ hv hs;have hsz:v.cells.size=OD T i:=by rw [←hlen,hc1.1];simp
  have hvs:=h1.1;obtain⟨vs',e1,e2,e3⟩:=xP hp ps qs (splice cs (mf T i) (ai x)) (splice vs (mf T i) v.cells.toList) hps (h1.splice hc1 (by rw [hlen];omega))
   (fun u hu=>(A7 hu).elim (h2 u) (hc2 u)) (by rw [dV _ _ _ (by rw [hlen];omega)];exact hl) hok'
  refine⟨vs',?_,e2,e3⟩;simp only [Instr.fill,hp i hi];rw [if_neg (by simp [hsz];omega)];rw [←e1];congr 1
  exact xQ (mf T i) v.cells vs (by omega)
theorem qN {n cells:Nat} {place:Nat→Option (Nat×Nat)} (hp: ∀i,place i=some (i*n,n)): ∀(ps:List (Nat×AV)) (qs:List (Nat×Value)) (cs:List AV) (vs:List Value),Df J O w ps qs→bC J O w cs vs→
  (∀v∈vs,v.oneCell'=true)→cs.length=cells→nP n cells ps→ ∃vs',Instr.fill place vs.toArray qs=some vs'.toArray∧bC J O w (lm n ps cs) vs'∧ ∀v∈vs',v.oneCell'=true
 | [],[],cs,vs,_,h1,h2,_,_=>⟨vs,rfl,h1,h2⟩
 | [],_::_,_,_,h,_,_,_,_=>h.elim
 | (_,_)::_,[],_,_,h,_,_,_,_=>h.elim
 | (i,x)::ps,(j,v)::qs,cs,vs,h,h1,h2,hl,hok=>by
  obtain⟨rfl,hv,hps⟩:=h;obtain⟨hs,hlen,hle,hok'⟩:=hok;obtain⟨hc1,hc2⟩:=mZ hv hs;have hsz:v.cells.size=n:=by rw [←hlen,hc1.1];simp
  have hvs:=h1.1;obtain⟨vs',e1,e2,e3⟩:=qN hp ps qs (splice cs (i*n) (ai x)) (splice vs (i*n) v.cells.toList) hps (h1.splice hc1 (by rw [hlen];omega))
   (fun u hu=>(A7 hu).elim (h2 u) (hc2 u)) (by rw [dV _ _ _ (by rw [hlen];omega)];exact hl) hok'
  refine⟨vs',?_,e2,e3⟩;simp only [Instr.fill,hp i];rw [if_neg (by simp [hsz];omega)];rw [←e1];congr 1
  exact xQ (i*n) v.cells vs (by omega)
theorem x8: ∀(fs:List Field),(∀f∈fs,(ah P f.type).ok=true)→fs.mapM (fun f=>(P.info? f.type).map fun i=>(f.offset,i.size))=some (fs.map fun f=>(f.offset,P.cellsOf f.type))
 | [],_=>by simp
 | f::fs,h=>by
  obtain⟨d,i,_,hi,_⟩:=dw (h f (by simp));have:=x8 fs (fun g hg=>h g (by simp [hg]));simp [List.mapM_cons,hi,this,Program.cellsOf]
theorem EM {t:TypeId} {ps:List (Nat×AV)} {qs:Array (Nat×Value)} (hps:Df J O w ps qs.toList)(hok:EK P t ps):jo P J O w (Instr.build t qs) (EL P t ps):=by
 obtain⟨hz,hzl,hok⟩:=hok;unfold EL;split at hok
 ·rename_i fl hk;obtain⟨hb,hall⟩:=hok;obtain⟨d,hu,hd,htok,hag⟩:=gm hk (by simp)
  cases d with
  | struct fields=>
   simp only [pQ,TK.struct.injEq] at hd;obtain⟨z,hz1,hz2,hz3,hz4⟩:=dW htok hz w;have hzr:=jd (J:=J) (O:=O) (w:=w) hz2;rw [←hz3] at hzr;have hfo:fieldsOf (ah P t)=fl:=by simp [fieldsOf,hk]
   have hpl: ∀i,i<(fieldsOf (ah P t)).length→((fields.toList.map fun f=>(f.offset,P.cellsOf f.type)).toArray)[i]? =some (mf (ah P t) i,OD (ah P t) i):=by
    intro i hi;rw [hfo,←hd] at hi;simp only [List.length_map,Array.length_toList] at hi;simp [mf,OD,hfo,←hd,List.getD,Array.getElem?_eq_getElem hi]
   obtain⟨vs',e1,e2,e3⟩:=xP hpl ps qs.toList _ z.cells.toList hps hzr hz2 (by rw [hzl]) hb;have hbuilt:P.built t qs.toList=some vs'.toArray:=by
    obtain⟨d',i,hd',hi,e⟩:=dw htok;have hzz: ∃zz,i.zero=some zz∧zz=z:=by
     simp only [zeroValue,typeInfo,Sem.run_bind,run_program,Result.andThen_ok,hi,Sem.run_pure] at hz1
     cases hq:i.zero with
     | none=>simp [hq] at hz1
     | some zz=>simp [hq] at hz1;exact⟨zz,rfl,hz1⟩
    obtain⟨zz,hzz,rfl⟩:=hzz;have hm:=x8 (P:=P) fields.toList (fun f hf=>hall (f.offset,P.cellsOf f.type,f.type) (by rw [←hd];exact List.mem_map.2 ⟨f,hf,rfl⟩));simp only [Program.built,hi,hu,hzz,hm];have ez:zz.cells.toList.toArray=zz.cells:=by simp
    rw [ez] at e1;exact e1
   refine⟨_,run_build w t qs _ hbuilt,.agg _ _ e2.1 e3 e2.2⟩
  | _=>simp [pQ] at hd
 ·rename_i n e hk;obtain⟨he,hb⟩:=hok;obtain⟨hu,htok⟩:=o8 hk;obtain⟨z,hz1,hz2,hz3,hz4⟩:=dW htok hz w;have hzr:=jd (J:=J) (O:=O) (w:=w) hz2;rw [←hz3] at hzr;obtain⟨de,ie,hde,hie,eqe⟩:=dw he;have hce:(ah P e).cells=ie.size:=by rw [eqe]
  obtain⟨vs',e1,e2,e3⟩:=qN (place:=fun i=>some (i*ie.size,ie.size)) (n:=(ah P e).cells) (fun i=>by rw [hce]) ps qs.toList _ z.cells.toList hps hzr hz2 (by rw [hzl]) hb;have hbuilt:P.built t qs.toList=some vs'.toArray:=by
   obtain⟨d',i,hd',hi,e⟩:=dw htok;have hzz: ∃zz,i.zero=some zz∧zz=z:=by
    simp only [zeroValue,typeInfo,Sem.run_bind,run_program,Result.andThen_ok,hi,Sem.run_pure] at hz1
    cases hq:i.zero with
    | none=>simp [hq] at hz1
    | some zz=>simp [hq] at hz1;exact⟨zz,rfl,hz1⟩
   obtain⟨zz,hzz,rfl⟩:=hzz;simp only [Program.built,hi,hu,hzz,hie];simpa using e1
  refine⟨_,run_build w t qs _ hbuilt,.agg _ _ e2.1 e3 e2.2⟩
 ·exact hok.elim
theorem JR (hh:bI gl h J w) {t ty:TypeId} {x:AV} {u:Value} (hx:aJ J (Own h J) w x u)(hok:lenOk h (ah P t).kind x):jo P J (Own h J) w (Builtin.len_ #[t] ty #[u]) (.int .i64 (alen h x)):=by
 unfold lenOk at hok;split at hok
 ·rename_i s hk;obtain⟨hu,_⟩:=qU hk;cases hx
  refine⟨_,run_len_string w t ty _ hu,?_⟩;have:(⟨s.toArray⟩:ByteArray).size=s.length:=by simp [ByteArray.size]
  simp only [goInt,this];exact .int _ _
 ·rename_i e es hk;obtain⟨hu,_⟩:=bO hk;cases hx
  ·exact⟨_,by simp [Builtin.len_,run_underlying hu,goInt];rfl,.int _ _⟩
  ·exact⟨_,by simp [Builtin.len_,run_underlying hu,goInt];rfl,.int _ _⟩
 ·rename_i e b off len hk;obtain⟨hu,_⟩:=bO hk;cases hx
  exact⟨_,by simp [Builtin.len_,run_underlying hu,goInt];rfl,.int _ _⟩
 ·rename_i e hk;obtain⟨hu,_⟩:=bO hk;cases hx
  exact⟨_,by simp [Builtin.len_,run_underlying hu,goInt];rfl,.int _ _⟩
 ·rename_i e hk;obtain⟨hu,_⟩:=bO hk;cases hx
  exact⟨_,by simp [Builtin.len_,run_underlying hu,goInt];rfl,.int _ _⟩
 ·rename_i k e b hk;obtain⟨hu,_⟩:=mo hk;obtain⟨r,es,clock,rfl,h1,h2,h3⟩:=OW hh hx hok;have hg:(getObj r).run P w= .ok (.map es clock) w:=kM h1 (by intros;simp);refine⟨_,?_,.int _ _⟩;simp [Builtin.len_,run_underlying hu,hg,goInt,alen,h2]
 ·rename_i k e hk;obtain⟨hu,_⟩:=mo hk;cases hx
  exact⟨_,by simp [Builtin.len_,run_underlying hu,goInt];rfl,.int _ _⟩
 ·exact hok.elim
theorem Vn (x y:Int):(if y<x then y else x)=min x y:=by rw [Int.min_def];split <;> split <;> omega
theorem Vm (x y:Int):(if y>x then y else x)=max x y:=by rw [Int.max_def];split <;> split <;> omega
theorem zS (hh:bI gl h J w) {b:Builtin} {ts:List TypeId} {ty:TypeId} {cs:Array Bool} {xs:List AV} {us:List Value} (hx:bC J (Own h J) w xs us)(hok:nQ P h b ts xs):
  ∃v,(builtin b ts.toArray ty cs us.toArray).run P w= .ok (.value v) w∧aJ J (Own h J) w (vC h b xs) v:=by
 have hl:=hx.1;unfold nQ at hok;split at hok
 ·rename_i x;split at hok
  ·rename_i t;obtain⟨u,rfl⟩:=List.length_eq_one_iff.1 (hl.symm.trans rfl);obtain⟨v,h1,h2⟩:=JR (P:=P) (ty:=ty) hh (hx.2 0 x u rfl rfl) hok;exact⟨v,by simp only [builtin,Sem.run_bind];rw [show (Builtin.len_ [t].toArray ty [u].toArray).run P w= .ok v w from h1];rfl,h2⟩
  ·exact hok.elim
 all_goals first
  | exact hok.elim
  | skip
 ·rename_i k x k' y
  match us,hl with
  | [u1,u2],_=>
   have r1:=hx.2 0 _ u1 rfl rfl;have r2:=hx.2 1 _ u2 rfl rfl;cases r1;cases r2
   refine⟨.int k (min x y),?_,.int _ _⟩;simp only [builtin,Builtin.min_,List.foldlM_cons,List.foldlM_nil,Builtin.min2,Sem.run_bind,Sem.run_pure,Result.andThen_ok,Vn]
 ·rename_i k x k' y
  match us,hl with
  | [u1,u2],_=>
   have r1:=hx.2 0 _ u1 rfl rfl;have r2:=hx.2 1 _ u2 rfl rfl;cases r1;cases r2
   refine⟨.int k (max x y),?_,.int _ _⟩;simp only [builtin,Builtin.max_,List.foldlM_cons,List.foldlM_nil,Builtin.max2,Sem.run_bind,Sem.run_pure,Result.andThen_ok,Vm]
 ·rename_i k x k' y k'' z
  match us,hl with
  | [u1,u2,u3],_=>
   have r1:=hx.2 0 _ u1 rfl rfl;have r2:=hx.2 1 _ u2 rfl rfl;have r3:=hx.2 2 _ u3 rfl rfl;cases r1;cases r2;cases r3
   refine⟨.int k (min (min x y) z),?_,.int _ _⟩;simp only [builtin,Builtin.min_,List.foldlM_cons,List.foldlM_nil,Builtin.min2,Sem.run_bind,Sem.run_pure,Result.andThen_ok,Vn]
 ·rename_i k x k' y k'' z
  match us,hl with
  | [u1,u2,u3],_=>
   have r1:=hx.2 0 _ u1 rfl rfl;have r2:=hx.2 1 _ u2 rfl rfl;have r3:=hx.2 2 _ u3 rfl rfl;cases r1;cases r2;cases r3
   refine⟨.int k (max (max x y) z),?_,.int _ _⟩;simp only [builtin,Builtin.max_,List.foldlM_cons,List.foldlM_nil,Builtin.max2,Sem.run_bind,Sem.run_pure,Result.andThen_ok,Vm]
end
end Go.Abs
end
section
namespace Go.Abs
open Go
section
variable {P : Program} {gl : aM} {J : List dH} {h : ae} {w : World} {O : Nat → Prop} {fr : aH} {N : Nat}
theorem lY {J:List dH} {O:Nat→Prop} {w:World} {a:Act}: ∀(l:List Operand),(∀x∈l,aJ J O w (ev gl fr x) (a.eval x))→(∀x∈l,(ev gl fr x).gd=true)→bC J O w (l.map fun x=>(ev gl fr x).core) (l.map a.eval)
 | [],_,_=> .nil
 | x::l,h1,h2=>bC.cons ((h1 x (by simp)).core (h2 x (by simp))) (lY l (fun y hy=>h1 y (by simp [hy])) (fun y hy=>h2 y (by simp [hy])))
theorem xq {J:List dH} {O:Nat→Prop} {w:World} {a:Act}: ∀(l:List (Nat×Operand)),(∀p∈l,aJ J O w (ev gl fr p.2) (a.eval p.2))→(∀p∈l,(ev gl fr p.2).gd=true)→Df J O w (l.map fun p=>(p.1,(ev gl fr p.2).core)) (l.map fun p=>(p.1,a.eval p.2))
 | [],_,_=>trivial
 | (i,x)::l,h1,h2=>⟨rfl,(h1 (i,x) (by simp)).core (h2 (i,x) (by simp)),xq l (fun y hy=>h1 y (by simp [hy])) (fun y hy=>h2 y (by simp [hy]))⟩
theorem NN {o:Oper} {a:Act} (hh:bI gl h J w)(hr: ∀x∈o.op.operands,aJ J (Own h J) w (ev gl fr x) (a.eval x))(hok:Ra P gl fr h o.op):
  ∃v,(execOp a.eval o).run P w= .ok (.value v) w∧aJ J (Own h J) w (Db P gl fr h o.op) v:=by
 have of1: ∀ {s:Sem Value} {x:AV},jo P J (Own h J) w s x→ ∃v,(s>>=fun v=>(pure (Next.value v):Sem Next)).run P w= .ok (.value v) w∧aJ J (Own h J) w x v:=by
  rintro s x ⟨v,h1,h2⟩;exact⟨v,by simp [h1],h2⟩
 unfold execOp;cases hop:o.op <;> simp only [hop] at hok hr ⊢ <;> simp only [Ra] at hok <;> simp only [Db]
 case move x=>exact⟨_,rfl,(hr x (by simp [Op.operands])).core hok⟩
 case assign x=>exact⟨_,rfl,(hr x (by simp [Op.operands])).core hok⟩
 case pick c x y=>
  obtain⟨hc,hok⟩:=hok;have rc:=(hr c (by simp [Op.operands])).core hc;have rx:=hr x (by simp [Op.operands]);have ry:=hr y (by simp [Op.operands]);unfold J9 at hok;unfold Pn;split at hok
  ·rename_i t e1;rw [e1] at rc;generalize a.eval c=vc at*;cases rc
   cases t with
   | true=>
    obtain⟨h1,h2⟩:=hok.1 rfl;have r:=rx.core h1;generalize (ev gl fr x).core=X at r h2 ⊢;cases X <;> simp [vR] at h2
    generalize a.eval x=vx at*;cases r
    exact⟨_,by simp [asBool,AV.bval],.bool _⟩
   | false=>
    obtain⟨h1,h2⟩:=hok.2 rfl;have r:=ry.core h1;generalize (ev gl fr y).core=X at r h2 ⊢;cases X <;> simp [vR] at h2
    generalize a.eval y=vy at*;cases r
    exact⟨_,by simp [asBool,AV.bval],.bool _⟩
  ·exact hok.elim
 case build t parts=>
  obtain⟨hg,hok⟩:=hok;have hm: ∀p∈parts.toList,aJ J (Own h J) w (ev gl fr p.2) (a.eval p.2):=fun p hp=>hr p.2 (by
   simp only [Op.operands,List.mem_toArray];exact List.mem_map.2 ⟨p,hp,rfl⟩)
  have:=xq (a:=a) (J:=J) (O:=Own h J) (w:=w) parts.toList hm hg;exact of1 (EM (qs:=parts.map fun (i,x)=>(i,a.eval x)) (by simpa using this) hok)
 case load t x=>
  obtain⟨hg,ht,hok⟩:=hok;exact of1 (Ho hh ((hr x (by simp [Op.operands])).core hg) ht hok)
 case nilCheck x=>
  obtain⟨hg,hok⟩:=hok;have r:=(hr x (by simp [Op.operands])).core hg;unfold O6 at hok;split at hok
  ·rename_i e;rw [e] at r ⊢;generalize a.eval x=v at*;cases r
   exact⟨_,rfl,.ptr _ _ _ _ ‹_›⟩
  ·rename_i f first caps e
   rw [e] at r ⊢;generalize a.eval x=v at*;cases r
   exact⟨_,rfl,.fn _ _ _ _ _ ‹_› ‹_› ‹_› ‹_›⟩
  ·exact hok.elim
 case binOp op t x y yt=>
  obtain⟨hx,hy,hok⟩:=hok;exact of1 (Jb ((hr x (by simp [Op.operands])).core hx) ((hr y (by simp [Op.operands])).core hy) hok)
 case unOp op t x=>
  obtain⟨hx,hok⟩:=hok;exact of1 (L9 ((hr x (by simp [Op.operands])).core hx) hok)
 case convert src dst x=>
  obtain⟨hx,hok⟩:=hok;exact of1 (Gj ((hr x (by simp [Op.operands])).core hx) hok)
 case makeInterface t x=>
  obtain⟨hx,ht,hok⟩:=hok;obtain⟨d,i,hd,hi,e⟩:=dw ht;refine of1 ⟨.iface t (a.eval x),?_,.iface t _ _ ((hr x (by simp [Op.operands])).core hx)⟩;rw [e] at hok;simp only [Instr.makeInterface,Sem.run_bind,run_underlying hd,Result.andThen_ok];cases d <;> first | rfl | (simp [pQ,EY] at hok)
 case makeFunc f first caps=>
  obtain⟨h1,h2⟩:=hok;have r1:=lY (a:=a) (J:=J) (O:=Own h J) (w:=w) (gl:=gl) (fr:=fr) first.toList (fun x hx=>hr x (Array.mem_append.2 (.inl (by simpa using hx)))) h1;have r2:=lY (a:=a) (J:=J) (O:=Own h J) (w:=w) (gl:=gl) (fr:=fr) caps.toList (fun x hx=>hr x (Array.mem_append.2 (.inr (by simpa using hx)))) h2;refine of1 ⟨.func f (first.map a.eval) (caps.map a.eval),rfl,?_⟩;have e1:first.map a.eval=(first.toList.map a.eval).toArray:=by rw [←Array.toList_map,Array.toArray_toList]
  have e2:caps.map a.eval=(caps.toList.map a.eval).toArray:=by rw [←Array.toList_map,Array.toArray_toList]
  rw [e1,e2];exact .fn f _ _ _ _ r1.1 r2.1 r1.2 r2.2
 case slice t x lo hi mx=>
  obtain⟨hx,rfl,hlo,hhi,hok⟩:=hok;have rx:=(hr x (by simp [Op.operands])).core hx;refine of1 (FX (lo:=lo.map a.eval) (hi:=hi.map a.eval) hh rx ?_ ?_ ?_ ?_ hok)
  ·intro v hv
   cases lo with
   | none=>simp at hv
   | some y=>
    simp only [Option.map_some,Option.mem_def,Option.some.injEq] at hv;subst hv;simp only [Option.map_some,uw] at hlo;obtain⟨k,hk⟩:=uu ((hr y (by simp [Op.operands])).core hlo.1) hlo.2;exact⟨k,_,hk,rfl⟩
  ·intro hn;cases lo <;> simp_all
  ·intro v hv
   cases hi with
   | none=>simp at hv
   | some y=>
    simp only [Option.map_some,Option.mem_def,Option.some.injEq] at hv;subst hv;simp only [Option.map_some,uw] at hhi;obtain⟨k,hk⟩:=uu ((hr y (by simp [Op.operands])).core hhi.1) hhi.2;exact⟨k,_,hk,rfl⟩
  ·intro hn;cases hi <;> simp_all
 case fieldAddr s x f=>
  obtain⟨hx,h1,h2,h3,hok⟩:=hok;exact of1 (wY ((hr x (by simp [Op.operands])).core hx) h1 h2 h3 hok)
 case field s x f=>
  obtain⟨hx,h1,h3,hok⟩:=hok;exact of1 (EU ((hr x (by simp [Op.operands])).core hx) h1 h3 hok)
 case indexAddr t x ix=>
  obtain⟨hx,hy,h1,h2,hok⟩:=hok;exact of1 (xc hh ((hr x (by simp [Op.operands])).core hx) ((hr ix (by simp [Op.operands])).core hy) h1 h2 hok)
 case index t x ix=>
  obtain⟨hx,hy,h1,h2,hok⟩:=hok;exact of1 (E5 ((hr x (by simp [Op.operands])).core hx) ((hr ix (by simp [Op.operands])).core hy) h1 h2 hok)
 case lookup t x ix ok=>
  obtain⟨hx,hy,hok⟩:=hok;exact of1 (CO hh ok ((hr x (by simp [Op.operands])).core hx) ((hr ix (by simp [Op.operands])).core hy) hok)
 case extract x i=>
  obtain⟨hx,hok⟩:=hok;exact of1 (Ai ((hr x (by simp [Op.operands])).core hx) hok)
end
end Go.Abs
end
end
end
