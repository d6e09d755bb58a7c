/- Part 1 of the lemmas below the statements of this seat: AbsSound. -/
import Derived.Calls
import Derived.Laws.AppendOwn
import Derived.Orders
import Derived.Laws.Rows
import Derived.Laws.StructEq
import Derived.Laws.Slices
import Derived.Laws.Cells
import Derived.Laws.Tables
import Derived.Laws.BytesString
import Derived.KernelRfl
set_option linter.unusedSectionVars false
set_option linter.unusedVariables false
set_option linter.unusedSimpArgs false
set_option linter.unnecessarySimpa false
set_option maxRecDepth 100000
namespace Go
theorem zA {α : Type _} {i : Nat} {a : α} {l : List α} : l[i]? = some a ↔ ∃ h : i < l.length, l[i] = a:=List.getElem?_eq_some_iff
theorem zB {α : Type _} {l : List α} {i : Nat} (h : i < l.length) : l[i]? = some l[i]:=List.getElem?_eq_getElem h
theorem zC {α : Type _} {l₁ l₂ : List α} {i : Nat} (h : i < l₁.length) : (l₁ ++ l₂)[i]? = l₁[i]?:=List.getElem?_append_left h
theorem zD {α : Type _} {l₁ l₂ : List α} {i : Nat} (h : l₁.length ≤ i) : (l₁ ++ l₂)[i]? = l₂[i - l₁.length]?:=List.getElem?_append_right h
theorem zF {α : Type _} {l : List α} {i : Nat} {a : α} (h : l[i]? = some a) : a ∈ l:=List.mem_of_getElem? h
theorem zG {α : Type _} {i : Nat} {l : List α} (h : l.length ≤ i) : l.take i = l:=List.take_of_length_le h
theorem zH {α : Type _} {l : List α} {i : Nat} (h : l.length ≤ i) : l.drop i = []:=List.drop_eq_nil_of_le h
theorem zI {α : Type _} {l : List α} {i : Nat} {a : α} (h : i < l.length) : (l.set i a)[i]? = some a:=List.getElem?_set_self h
theorem zJ {α : Type _} {l : List α} {i j : Nat} (h : i ≠ j) {a : α} : (l.set i a)[j]? = l[j]?:=List.getElem?_set_ne h
theorem zK {α : Type _} (a b c : List α) : a ++ b ++ c = a ++ (b ++ c):=List.append_assoc a b c
theorem zM {α : Type _} {l : List α} {i : Nat} : l.take (i + 1) = l.take i ++ l[i]?.toList:=List.take_add_one
theorem zN (a b : Nat) : a < b ∨ a ≥ b:=Nat.lt_or_ge a b
end Go
section
section
namespace Go.Abs
open Go
inductive AV where
 | bool (b:Bool)
 | int (k:IntKind) (n:Int)
 | str (s:List UInt8)
 | lit (x:Value)
 | agg (cs:List AV)
 | tup (cs:List AV)
 | nil
 | e0
 | ro (es:List (List AV))
 | rop (es:List (List AV)) (i c:Nat)
 | own (b off len:Nat)
 | ptr (b i c:Nat)
 | fn (f:Fn) (first caps:List AV)
 | map (b:Nat)
 | obj (b:Nat)
 | iface (t:TypeId) (x:AV)
 | opt (g:Bool) (x:AV)
 | junk
 deriving Inhabited
structure eF where
 r:Nat
 base:Nat
 n:Nat
 cap:Nat
inductive cZ where
 | dead
 | cells (n:Nat) (es:List (List AV))
 | map (kvs:List (AV×AV))
 | iter (m n:Nat) (seen:List Nat)
 | pin (x:AV)
 | raw (o:Obj)
abbrev ak:=List cZ
abbrev aP:=Nat→AV
theorem add_block (a:Addr)(n:Nat):(a.add n).block=a.block:=by unfold Addr.add;split <;> rfl
inductive aQ (J:List eF)(O:Nat→Prop)(w:World):AV→Value→Prop
 | bool (b:Bool):aQ J O w (.bool b) (.bool b)
 | int (k:IntKind) (n:Int):aQ J O w (.int k n) (.int k n)
 | str (s:List UInt8):aQ J O w (.str s) (.string ⟨s.toArray⟩)
 | lit (x:Value) (h:x.oneCell'=true):aQ J O w (.lit x) x
 | agg (cs:List AV) (vs:List Value) (hl:cs.length=vs.length) (h1: ∀v∈vs,v.oneCell'=true)
   (h: ∀(i:Nat) (x:AV) (v:Value),cs[i]? =some x→vs[i]? =some v→aQ J O w x v):aQ J O w (.agg cs) (.agg vs.toArray)
 | tup (cs:List AV) (vs:List Value) (hl:cs.length=vs.length)
   (h: ∀(i:Nat) (x:AV) (v:Value),cs[i]? =some x→vs[i]? =some v→aQ J O w x v):aQ J O w (.tup cs) (.tuple vs.toArray)
 | nil:aQ J O w .nil (.slice none 0 0)
 | e0 (a:Option Addr):aQ J O w .e0 (.slice a 0 0)
 | roNil:aQ J O w (.ro []) (.slice none 0 0)
 | ro (es:List (List AV)) (a:Addr) (n cap:Nat) (f:Nat→Nat→Value) (hcap:es.length≤cap) (hn:0<n)
   (hO:es=[]∨(a.block<w.heap.size∧ ¬O a.block)) (hl: ∀(i:Nat) (e:List AV),es[i]? =some e→e.length=n)
   (hc: ∀(i:Nat) (e:List AV) (c:Nat) (x:AV),es[i]? =some e→e[c]? =some x→w.cell? (a.add (i*n+c))=some (f i c))
   (h1: ∀(i:Nat) (e:List AV) (c:Nat) (x:AV),es[i]? =some e→e[c]? =some x→(f i c).oneCell'=true)
   (h: ∀(i:Nat) (e:List AV) (c:Nat) (x:AV),es[i]? =some e→e[c]? =some x→aQ J O w x (f i c)):aQ J O w (.ro es) (.slice (some a) es.length cap)
 | rop (es:List (List AV)) (i₀ c₀:Nat) (a:Addr) (n:Nat) (f:Nat→Nat→Value) (hn:0<n)
   (hO:es=[]∨(a.block<w.heap.size∧ ¬O a.block)) (hl: ∀(i:Nat) (e:List AV),es[i]? =some e→e.length=n)
   (hc: ∀(i:Nat) (e:List AV) (c:Nat) (x:AV),es[i]? =some e→e[c]? =some x→w.cell? (a.add (i*n+c))=some (f i c))
   (h1: ∀(i:Nat) (e:List AV) (c:Nat) (x:AV),es[i]? =some e→e[c]? =some x→(f i c).oneCell'=true)
   (h: ∀(i:Nat) (e:List AV) (c:Nat) (x:AV),es[i]? =some e→e[c]? =some x→aQ J O w x (f i c)):aQ J O w (.rop es i₀ c₀) (.pointer (some (a.add (i₀*n+c₀))))
 | own (b off len:Nat) (k:eF) (a:Addr) (cap:Nat) (hb:J[b]? =some k) (ha:0<cap→a=⟨k.r,k.base+off*k.n,none⟩)
   (hlen:len≤cap) (hcap:off+cap≤k.cap):aQ J O w (.own b off len) (.slice (some a) len cap)
 | ptr (b i c:Nat) (k:eF) (hb:J[b]? =some k):aQ J O w (.ptr b i c) (.pointer (some ⟨k.r,k.base+(i*k.n+c),none⟩))
 | fn (f:Fn) (first caps:List AV) (vf vc:List Value) (hf:first.length=vf.length) (hc:caps.length=vc.length)
   (h1: ∀(i:Nat) (x:AV) (v:Value),first[i]? =some x→vf[i]? =some v→aQ J O w x v)
   (h2: ∀(i:Nat) (x:AV) (v:Value),caps[i]? =some x→vc[i]? =some v→aQ J O w x v):aQ J O w (.fn f first caps) (.func f vf.toArray vc.toArray)
 | map (b:Nat) (k:eF) (hb:J[b]? =some k):aQ J O w (.map b) (.map (some k.r))
 | obj (b:Nat) (k:eF) (hb:J[b]? =some k):aQ J O w (.obj b) (.pointer (some ⟨k.r,0,none⟩))
 | iface (t:TypeId) (x:AV) (v:Value) (h:aQ J O w x v):aQ J O w (.iface t x) (.iface t v)
 | opt (g:Bool) (x:AV) (v:Value) (h:g=true→aQ J O w x v) (h0:g=false→v=undef):aQ J O w (.opt g x) v
 | junk (v:Value):aQ J O w .junk v
theorem lU {α:Type} {J J':List α} {t:List α} (h:J'=J++t) {b:Nat} {k:α} (hb:J[b]? =some k):J'[b]? =some k:=by
 subst h;have hlt:b<J.length:=by
  rcases zN b J.length with h | h
  ·exact h
  ·simp [List.getElem?_eq_none h] at hb
 rw [zC hlt];exact hb
theorem aQ.mono {J J':List eF} {O O':Nat→Prop} {w w':World} (hJ: ∃t,J'=J++t)(hs:w.heap.size≤w'.heap.size)
  (hk: ∀r,r<w.heap.size→ ¬O r→w'.heap[r]? =w.heap[r]? ∧ ¬O' r) {x:AV} {v:Value} (h:aQ J O w x v):aQ J' O' w' x v:=by
 obtain⟨t,hJ⟩:=hJ
 induction h with
 | bool b=>exact .bool b
 | int k n=>exact .int k n
 | str s=>exact .str s
 | lit x h=>exact .lit x h
 | agg cs vs hl h1 _ ih=>exact .agg cs vs hl h1 ih
 | tup cs vs hl _ ih=>exact .tup cs vs hl ih
 | nil=>exact .nil
 | e0 a=>exact .e0 a
 | roNil=>exact .roNil
 | ro es a n cap f hcap hn hO hl hc h1 _ ih=>
  refine .ro es a n cap f hcap hn ?_ hl ?_ h1 ih
  ·exact hO.imp id fun ⟨p,q⟩=>⟨Nat.lt_of_lt_of_le p hs,(hk _ p q).2⟩
  ·intro i e c x hi hx;have:=hc i e c x hi hx;rcases hO with rfl | ⟨p,q⟩
   ·simp at hi
   ·rw [←this];exact World.cell?_of_block (by rw [add_block];exact (hk _ p q).1)
 | rop es i₀ c₀ a n f hn hO hl hc h1 _ ih=>
  refine .rop es i₀ c₀ a n f hn ?_ hl ?_ h1 ih
  ·exact hO.imp id fun ⟨p,q⟩=>⟨Nat.lt_of_lt_of_le p hs,(hk _ p q).2⟩
  ·intro i e c x hi hx;have:=hc i e c x hi hx;rcases hO with rfl | ⟨p,q⟩
   ·simp at hi
   ·rw [←this];exact World.cell?_of_block (by rw [add_block];exact (hk _ p q).1)
 | own b off len k a cap hb ha hlen hcap=>exact .own b off len k a cap (lU hJ hb) ha hlen hcap
 | ptr b i c k hb=>exact .ptr b i c k (lU hJ hb)
 | fn f first caps vf vc hf hc _ _ ih1 ih2=>exact .fn f first caps vf vc hf hc ih1 ih2
 | map b k hb=>exact .map b k (lU hJ hb)
 | obj b k hb=>exact .obj b k (lU hJ hb)
 | iface t x v _ ih=>exact .iface t x v ih
 | opt g x v _ h0 ih=>exact .opt g x v ih h0
 | junk v=>exact .junk v
def Own (h:ak)(J:List eF)(r:Nat):Prop:= ∃(b:Nat) (k:eF) (o:cZ),J[b]? =some k∧h[b]? =some o∧o≠ .dead∧k.r=r
def wY (J:List eF)(O:Nat→Prop)(w:World)(k:eF):cZ→Prop
 | .dead=>True
 | .cells n es=>k.n=n∧0<k.n∧es.length≤k.cap∧(∀(i:Nat) (e:List AV),es[i]? =some e→e.length=k.n)∧ ∃(vs:Array Value) (T:TypeId),w.heap[k.r]? =some (.cells vs T (0,0))∧
   k.base+k.cap*k.n≤vs.size∧ ∀(i:Nat) (e:List AV) (c:Nat) (x:AV),es[i]? =some e→e[c]? =some x→ ∃v:Value,vs[k.base+(i*k.n+c)]? =some v∧v.oneCell'=true∧aQ J O w x v
 | .map kvs=> ∃(es:Array MapEntry) (clock:Nat),w.heap[k.r]? =some (.map es clock)∧es.size=kvs.length∧
   (∀(i:Nat) (e:MapEntry) (p:AV×AV),es[i]? =some e→kvs[i]? =some p→aQ J O w p.1 e.key∧aQ J O w p.2 e.val)∧clock=es.size∧ ∀(i:Nat) (e:MapEntry),es[i]? =some e→e.born=i
 | .iter m n seen=> ∃k':eF,J[m]? =some k'∧w.heap[k.r]? =some (.mapIter (some k'.r) n seen.toArray n)
 | .pin x=> ∃(v:Value) (T:TypeId),w.heap[k.r]? =some (.cells #[v] T (0,0))∧aQ J O w x v
 | .raw o=>w.heap[k.r]? =some o
abbrev aR:=Nat→Option (List AV)
structure dm (gl:aR)(h:ak)(J:List eF)(w:World):Prop where
 len:J.length=h.length
 inj: ∀(b b':Nat) (k k':eF) (o o':cZ),J[b]? =some k→J[b']? =some k'→h[b]? =some o→h[b']? =some o'→o≠ .dead→o'≠ .dead→k.r=k'.r→b=b'
 lt: ∀(b:Nat) (k:eF),J[b]? =some k→k.r<w.heap.size
 obj: ∀(b:Nat) (k:eF) (o:cZ),J[b]? =some k→h[b]? =some o→wY J (Own h J) w k o
 glob: ∀(g:Nat) (cs:List AV),gl g=some cs→aQ J (Own h J) w (.rop [cs] 0 0) (.pointer (some ⟨g,0,none⟩))
structure jE (h:ak)(J:List eF)(w:World)(h':ak)(J':List eF)(w':World):Prop where
 pre: ∃t,J'=J++t
 size:w.heap.size≤w'.heap.size
 keep: ∀r,r<w.heap.size→ ¬Own h J r→w'.heap[r]? =w.heap[r]? ∧ ¬Own h' J' r
 os:w'.os=w.os
 tape:w'.tape=w.tape
 output:w'.output=w.output
theorem jE.refl (h:ak)(J:List eF)(w:World):jE h J w h J w:=⟨⟨[],by simp⟩,Nat.le_refl _,fun _ _ n=>⟨rfl,n⟩,rfl,rfl,rfl⟩
theorem jE.trans {h h' h'':ak} {J J' J'':List eF} {w w' w'':World} (a:jE h J w h' J' w')(b:jE h' J' w' h'' J'' w''):jE h J w h'' J'' w'':=by
 obtain⟨t,ht⟩:=a.pre;obtain⟨t',ht'⟩:=b.pre;refine⟨⟨t++t',by rw [ht',ht,zK]⟩,Nat.le_trans a.size b.size,fun r hr hn=> ?_,b.os.trans a.os,b.tape.trans a.tape,b.output.trans a.output⟩;obtain⟨h1,h2⟩:=a.keep r hr hn;obtain⟨h3,h4⟩:=b.keep r (Nat.lt_of_lt_of_le hr a.size) h2;exact⟨h3.trans h1,h4⟩
theorem aQ.evo {h h':ak} {J J':List eF} {w w':World} (e:jE h J w h' J' w') {x:AV} {v:Value} (hv:aQ J (Own h J) w x v):aQ J' (Own h' J') w' x v:=
 hv.mono e.pre e.size e.keep
def bX (J:List eF)(O:Nat→Prop)(w:World)(xs:List AV)(vs:List Value):Prop:=
 xs.length=vs.length∧ ∀(i:Nat) (x:AV) (v:Value),xs[i]? =some x→vs[i]? =some v→aQ J O w x v
theorem bX.nil {J:List eF} {O:Nat→Prop} {w:World}:bX J O w [] []:=⟨rfl,by simp⟩
theorem bX.cons {J:List eF} {O:Nat→Prop} {w:World} {x:AV} {v:Value} {xs:List AV} {vs:List Value} (h:aQ J O w x v)(hs:bX J O w xs vs):bX J O w (x::xs) (v::vs):=by
 refine⟨by simp [hs.1],fun i y u hy hu=> ?_⟩
 cases i with
 | zero=>simp at hy hu;subst hy;subst hu;exact h
 | succ i=>simp at hy hu;exact hs.2 i y u hy hu
theorem bX.append {J:List eF} {O:Nat→Prop} {w:World} {xs ys:List AV} {vs us:List Value} (h:bX J O w xs vs)(hs:bX J O w ys us):bX J O w (xs++ys) (vs++us):=by
 refine⟨by simp [h.1,hs.1],fun i y u hy hu=> ?_⟩;rcases zN i xs.length with hi | hi
 ·rw [zC hi] at hy;rw [zC (by rw [←h.1];exact hi)] at hu;exact h.2 i y u hy hu
 ·rw [zD hi] at hy;rw [zD (by rw [←h.1];exact hi),←h.1] at hu;exact hs.2 _ y u hy hu
def af (P:Program)(gl:aR)(f:FuncId)(args:List AV)(h:ak)(R:AV→ak→Prop):Prop:=
 (∃fn,P.funcs[f]? =some fn∧fn.body.isSome=true∧(fn.name== "runtime.NumGoroutine")=false)∧
 ∀(J:List eF) (w:World) (vs:List Value),dm gl h J w→bX J (Own h J) w args vs→
  Calls P f vs.toArray w fun e w'=> ∃x v J' h',e= .returned v∧dm gl h' J' w'∧aQ J' (Own h' J') w' x v∧jE h J w h' J' w'∧R x h'
theorem Calls.mono' {P:Program} {f:FuncId} {args:Array Value} {w:World} {R R':Ending→World→Prop} (h:Calls P f args w R)(hr: ∀e w',R e w'→R' e w'):Calls P f args w R':=
 fun cs=>let ⟨e,w',fr,r,s⟩:=h cs;⟨e,w',fr,hr _ _ r,s⟩
theorem af.mono {P:Program} {gl:aR} {f:FuncId} {args:List AV} {h:ak} {R R':AV→ak→Prop} (c:af P gl f args h R)(hr: ∀x h',R x h'→R' x h'):af P gl f args h R':=
 ⟨c.1,fun J w vs hh hv=>Calls.mono' (c.2 J w vs hh hv) fun _ _ ⟨x,v,J',h',p1,p2,p3,p4,p5⟩=>⟨x,v,J',h',p1,p2,p3,p4,hr _ _ p5⟩⟩
structure qB (gl:aR)(N:Nat)(J:List eF)(fr:aP)(h:ak)(a:Act)(w:World):Prop where
 size:a.tmps.size=N
 defers:a.defers=[]
 tmps: ∀t,aQ J (Own h J) w (fr t) (a.tmps.getD t undef)
 heap:dm gl h J w
abbrev dN:=Exit→aP→ak→Prop
def lift (gl:aR)(N:Nat)(h:ak)(J:List eF)(w:World)(Q:dN):Exit→Act→World→Prop:=
 fun e a' w'=> ∃J' fr' h',qB gl N J' fr' h' a' w'∧jE h J w h' J' w'∧Q e fr' h'
def aW (P:Program)(gl:aR)(N:Nat)(c:Code)(Q:dN)(fr:aP)(h:ak):Prop:=
 ∀J a w,qB gl N J fr h a w→c.wp P (lift gl N h J w Q) a w
def iY (K:aP→ak→Prop)(Q:dN):dN
 | .normal,fr,h=>K fr h
 | e,fr,h=>Q e fr h
def jZ (id:Nat)(Q:dN):dN
 | .exit id',fr,h=>if id'=id then Q .normal fr h else Q (.exit id') fr h
 | e,fr,h=>Q e fr h
section
variable {P : Program} {gl : aR} {N : Nat} {Q Q' : dN} {fr : aP} {h : ak}
theorem QH {J:List eF} {w:World} (hq: ∀e fr h,Q e fr h→Q' e fr h) {e:Exit} {a':Act} {w':World} (hl:lift gl N h J w Q e a' w'):lift gl N h J w Q' e a' w':=
 let ⟨J',fr',h',r,ev,q⟩:=hl
 ⟨J',fr',h',r,ev,hq _ _ _ q⟩
theorem aW.mono {c:Code} (hc:aW P gl N c Q fr h)(hq: ∀e fr h,Q e fr h→Q' e fr h):aW P gl N c Q' fr h:=
 fun J a w r=>wp_mono (hc J a w r) fun _ _ _ hl=>QH hq hl
theorem oK {J J':List eF} {w w':World} {h':ak} (ev:jE h J w h' J' w') {e:Exit} {a'':Act} {w'':World} (hl:lift gl N h' J' w' Q e a'' w''):lift gl N h J w Q e a'' w'':=
 let ⟨J'',fr'',h'',r,ev',q⟩:=hl
 ⟨J'',fr'',h'',r,ev.trans ev',q⟩
theorem aW.skip (hq:Q .normal fr h):aW P gl N .skip Q fr h:=fun J _ w r=>wp_skip ⟨J,fr,h,r,jE.refl _ _ _,hq⟩
theorem aW.exit {id:Nat} (hq:Q (.exit id) fr h):aW P gl N (.exit id) Q fr h:=fun J _ w r=>wp_exit ⟨J,fr,h,r,jE.refl _ _ _,hq⟩
theorem aW.ret (hq:Q .ret fr h):aW P gl N .ret Q fr h:=fun J _ w r=>wp_ret ⟨J,fr,h,r,jE.refl _ _ _,hq⟩
theorem aW.label {l:Nat} (hq:Q .normal fr h):aW P gl N (.label l) Q fr h:=fun J _ w r=>wp_label ⟨J,fr,h,r,jE.refl _ _ _,hq⟩
theorem aW.seq {x y:Code} (hx:aW P gl N x (iY (aW P gl N y Q) Q) fr h):aW P gl N (.seq x y) Q fr h:=by
 intro J a w r;refine wp_seq (wp_mono (hx J a w r) ?_);rintro e a' w' ⟨J',fr',h',r',ev,q⟩
 cases e with
 | normal=>exact wp_mono (q J' a' w' r') fun _ _ _ hl=>oK ev hl
 | _=>exact⟨J',fr',h',r',ev,q⟩
theorem aW.block {id:Nat} {c:Code} (hc:aW P gl N c (jZ id Q) fr h):aW P gl N (.block id c) Q fr h:=by
 intro J a w r;refine wp_block (wp_mono (hc J a w r) ?_);rintro e a' w' ⟨J',fr',h',r',ev,q⟩
 cases e with
 | exit id'=>
  simp only [Exit.inBlock,jZ] at q ⊢;split
  ·rename_i hid;simp only [hid,if_true] at q;exact⟨J',fr',h',r',ev,q⟩
  ·rename_i hid;simp only [hid,if_false] at q;exact⟨J',fr',h',r',ev,q⟩
 | _=>exact⟨J',fr',h',r',ev,q⟩
theorem wp_loop_ghost {c:Code} {Q:Exit→Act→World→Prop} {a:Act} {w:World} (I:Nat→Act→World→Prop)(n:Nat)(h₀:I n a w)
  (round: ∀m a w,I m a w→c.wp P (Exit.then (fun a' w'=> ∃m',m'<m∧I m' a' w') Q) a w):(Code.loop c).wp P Q a w:=by
 intro b k cs;have key: ∀n a w,I n a w→ ∃e a' w',Q e a' w'∧Arrives P (lone (b.at a (.code c:: .inLoop c::k)) cs w) b k cs e a' w':=by
  intro n
  induction n using Nat.strongRecOn with
  | _ n ih=>
   intro a w hI;obtain⟨e,a₁,w₁,hq,harr⟩:=round n a w hI b (.inLoop c::k) cs
   cases e with
   | normal=>
    obtain⟨m,hlt,hI₁⟩:=hq;obtain⟨e₂,a₂,w₂,hq₂,harr₂⟩:=ih m hlt a₁ w₁ hI₁;exact⟨e₂,a₂,w₂,hq₂,.of_steps (Steps.trans harr (.one step_inLoop)) harr₂⟩
   | exit id=>exact⟨_,a₁,w₁,hq,.pass (x:= .inLoop c) rfl (fun _ _=> .inl (by simp)) harr⟩
   | goto l=>exact⟨_,a₁,w₁,hq,.pass (x:= .inLoop c) rfl (fun _ _=> .inl (by simp)) harr⟩
   | ret=>exact⟨_,a₁,w₁,hq,.pass (x:= .inLoop c) rfl (fun _ _=> .inl (by simp)) harr⟩
   | panic ch=>exact⟨_,a₁,w₁,hq,.pass (x:= .inLoop c) rfl (fun _ _=> .inl (by simp)) harr⟩
   | outgrown=>exact⟨_,a₁,w₁,hq,.pass (x:= .inLoop c) rfl (fun _ _=> .inl (by simp)) harr⟩
 obtain⟨e,a',w',hq,harr⟩:=key n a w h₀;exact⟨e,a',w',hq,.of_steps (.one step_loop) harr⟩
theorem aW.loop {c:Code} (I:Nat→aP→ak→Prop)(n:Nat)(h0:I n fr h)
  (round: ∀m fr h,I m fr h→aW P gl N c (iY (fun fr' h'=> ∃m',m'<m∧I m' fr' h') Q) fr h):aW P gl N (.loop c) Q fr h:=by
 intro J a w r;refine wp_loop_ghost (P:=P) (fun m a' w'=> ∃J' fr' h',qB gl N J' fr' h' a' w'∧jE h J w h' J' w'∧I m fr' h') n ⟨J,fr,h,r,jE.refl _ _ _,h0⟩ ?_;rintro m a' w' ⟨J',fr',h',r',ev,hI⟩;refine wp_mono (round m fr' h' hI J' a' w' r') ?_;rintro e a'' w'' ⟨J'',fr'',h'',r'',ev',q⟩
 cases e with
 | normal=>
  obtain⟨m',hlt,hI'⟩:=q;exact⟨m',hlt,J'',fr'',h'',r'',ev.trans ev',hI'⟩
 | _=>exact⟨J'',fr'',h'',r'',ev.trans ev',q⟩
theorem aW.loop_up {c:Code} (n:Nat)(I:Nat→aP→ak→Prop)(k:Nat)(hk:k≤n)(h0:I k fr h)
  (round: ∀k fr h,k≤n→I k fr h→aW P gl N c (iY (fun fr' h'=> ∃k',k<k'∧k'≤n∧I k' fr' h') Q) fr h):aW P gl N (.loop c) Q fr h:=by
 refine aW.loop (fun m fr h=> ∃k,k≤n∧m=n - k∧I k fr h) (n - k) ⟨k,hk,rfl,h0⟩ ?_;rintro m fr h ⟨k,hk,rfl,hI⟩;refine (round k fr h hk hI).mono ?_;intro e fr' h' q
 cases e with
 | normal=>
  obtain⟨k',h1,h2,h3⟩:=q;exact⟨n - k',by omega,k',h2,rfl,h3⟩
 | _=>exact q
def x9 (args:List AV):aP:=fun t=>args.getD t .junk
def aaR (fr:aP):List ResultVar→Option AV
 | [.tmp t]=>some (fr t)
 | [.tmp t,.tmp u]=>some (.tup [fr t,fr u])
 | [.tmp t,.tmp u,.tmp x]=>some (.tup [fr t,fr u,fr x])
 | [.tmp t,.tmp u,.tmp x,.tmp y]=>some (.tup [fr t,fr u,fr x,fr y])
 | []=>some (.tup [])
 | _=>none
end
end Go.Abs
end
section
namespace Go.Abs
open Go
section
variable {gl : aR} {h h' : ak} {J J' : List eF} {w w' : World}
theorem wY.evo {k:eF} {o:cZ} (ev:jE h J w h' J' w')(hw:w'.heap[k.r]? =w.heap[k.r]?)(ho:wY J (Own h J) w k o):wY J' (Own h' J') w' k o:=by
 cases o with
 | dead=>trivial
 | cells n es=>
  obtain⟨h0,h1,h2,h3,vs,T,h4,h5,h6⟩:=ho;refine⟨h0,h1,h2,h3,vs,T,hw.trans h4,h5,fun i e c x hi hx=> ?_⟩;obtain⟨v,p1,p2,p3⟩:=h6 i e c x hi hx;exact⟨v,p1,p2,p3.evo ev⟩
 | map kvs=>
  obtain⟨es,clock,h1,h2,h3,h4⟩:=ho;exact⟨es,clock,hw.trans h1,h2,fun i e p hi hp=>⟨(h3 i e p hi hp).1.evo ev,(h3 i e p hi hp).2.evo ev⟩,h4⟩
 | iter m n seen=>
  obtain⟨k',h1,h2⟩:=ho;obtain⟨t,ht⟩:=ev.pre;exact⟨k',lU ht h1,hw.trans h2⟩
 | pin x=>
  obtain⟨v,T,h1,h2⟩:=ho;exact⟨v,T,hw.trans h1,h2.evo ev⟩
 | raw o=>exact hw.trans ho
theorem dm.step (hh:dm gl h J w)(ev:jE h J w h' J' w')(len:J'.length=h'.length)
  (inj: ∀(b b':Nat) (k k':eF) (o o':cZ),J'[b]? =some k→J'[b']? =some k'→h'[b]? =some o→h'[b']? =some o'→o≠ .dead→o'≠ .dead→k.r=k'.r→b=b')
  (lt: ∀(b:Nat) (k:eF),J'[b]? =some k→k.r<w'.heap.size)
  (objs: ∀(b:Nat) (k:eF) (o:cZ),J'[b]? =some k→h'[b]? =some o→o≠ .dead→(J[b]? =some k∧h[b]? =some o∧w'.heap[k.r]? =w.heap[k.r]?)∨wY J' (Own h' J') w' k o):dm gl h' J' w':=by
 refine⟨len,inj,lt,fun b k o hb ho=> ?_,fun g cs hg=>(hh.glob g cs hg).evo ev⟩;by_cases hd:o= .dead
 ·subst hd;trivial
 ·rcases objs b k o hb ho hd with⟨h1,h2,h3⟩ | h1
  ·exact (hh.obj b k o h1 h2).evo ev h3
  ·exact h1
theorem dm.drew (hh:dm gl h J w):dm gl h J w.drew∧jE h J w h J w.drew:=by
 have ev:jE h J w h J w.drew:=⟨⟨[],by simp⟩,Nat.le_refl _,fun _ _ n=>⟨rfl,n⟩,rfl,rfl,rfl⟩;exact⟨hh.step ev hh.len hh.inj hh.lt (fun b k o h1 h2 _=> .inl ⟨h1,h2,rfl⟩),ev⟩
theorem Er {k:eF} {o:cZ} (hl:J.length=h.length) {r:Nat} (hr:Own (h++[o]) (J++[k]) r):Own h J r∨(o≠ .dead∧k.r=r):=by
 obtain⟨b,k',o',h1,h2,h3,h4⟩:=hr;rcases zN b J.length with hb | hb
 ·rw [zC hb] at h1;rw [zC (by omega)] at h2;exact .inl ⟨b,k',o',h1,h2,h3,h4⟩
 ·rw [zD hb] at h1;rw [zD (by omega),←hl] at h2;rcases Nat.eq_zero_or_pos (b - J.length) with h0 | h0
  ·rw [h0] at h1 h2;simp at h1 h2;subst h1;subst h2
   exact .inr ⟨h3,h4⟩
  ·rw [List.getElem?_eq_none (by simp;omega)] at h1;cases h1
theorem dm.alloc (hh:dm gl h J w)(ob:Obj)(k:eF)(o:cZ)(hk:k.r=w.heap.size)
  (ho: ∀J' O',(∀x v,aQ J (Own h J) w x v→aQ J' O' (w.alloc ob) x v)→wY J' O' (w.alloc ob) k o):
  dm gl (h++[o]) (J++[k]) (w.alloc ob)∧jE h J w (h++[o]) (J++[k]) (w.alloc ob):=by
 have hold: ∀r,r<w.heap.size→(w.alloc ob).heap[r]? =w.heap[r]? :=fun r hr=>by
  show (w.heap.push ob)[r]? =_;rw [Array.getElem?_push,if_neg (by omega)]
 have ev:jE h J w (h++[o]) (J++[k]) (w.alloc ob):=by
  refine⟨⟨[k],rfl⟩,by simp,fun r hr hn=>⟨hold r hr,fun hO=> ?_⟩,rfl,rfl,rfl⟩;rcases Er hh.len hO with h1 | ⟨_,h1⟩
  ·exact hn h1
  ·omega
 refine⟨hh.step ev (by simp [hh.len]) ?_ ?_ ?_,ev⟩
 ·intro b b' k1 k2 o1 o2 h1 h2 h3 h4 h5 h6 h7;have hlen:=hh.len;rcases zN b J.length with hb | hb <;> rcases zN b' J.length with hb' | hb'
  ·rw [zC hb] at h1;rw [zC hb'] at h2;rw [zC (by omega)] at h3 h4;exact hh.inj b b' k1 k2 o1 o2 h1 h2 h3 h4 h5 h6 h7
  ·rw [zC hb] at h1;rw [zD hb'] at h2;have:k2=k:=by
    rcases Nat.eq_zero_or_pos (b' - J.length) with h0 | h0
    ·rw [h0] at h2;simpa using h2.symm
    ·rw [List.getElem?_eq_none (by simp;omega)] at h2;cases h2
   subst this;have:=hh.lt b k1 h1;omega
  ·rw [zD hb] at h1;rw [zC hb'] at h2;have:k1=k:=by
    rcases Nat.eq_zero_or_pos (b - J.length) with h0 | h0
    ·rw [h0] at h1;simpa using h1.symm
    ·rw [List.getElem?_eq_none (by simp;omega)] at h1;cases h1
   subst this;have:=hh.lt b' k2 h2;omega
  ·have e1:b=J.length:=by
    rcases Nat.eq_zero_or_pos (b - J.length) with h0 | h0
    ·omega
    ·rw [zD hb,List.getElem?_eq_none (by simp;omega)] at h1;cases h1
   have e2:b'=J.length:=by
    rcases Nat.eq_zero_or_pos (b' - J.length) with h0 | h0
    ·omega
    ·rw [zD hb',List.getElem?_eq_none (by simp;omega)] at h2;cases h2
   omega
 ·intro b k1 h1;rcases zN b J.length with hb | hb
  ·rw [zC hb] at h1;have:=hh.lt b k1 h1;simp;omega
  ·rw [zD hb] at h1;have:k1=k:=by
    rcases Nat.eq_zero_or_pos (b - J.length) with h0 | h0
    ·rw [h0] at h1;simpa using h1.symm
    ·rw [List.getElem?_eq_none (by simp;omega)] at h1;cases h1
   subst this;simp [hk]
 ·intro b k1 o1 h1 h2 h3;have hlen:=hh.len;rcases zN b J.length with hb | hb
  ·rw [zC hb] at h1;rw [zC (by omega)] at h2;exact .inl ⟨h1,h2,hold _ (hh.lt b k1 h1)⟩
  ·right
   rw [zD hb] at h1;rw [zD (by omega),←hlen] at h2;rcases Nat.eq_zero_or_pos (b - J.length) with h0 | h0
   ·rw [h0] at h1 h2;simp at h1 h2;subst h1;subst h2
    exact ho _ _ fun x v hv=>hv.evo ev
   ·rw [List.getElem?_eq_none (by simp;omega)] at h1;cases h1
theorem Vf {b:Nat} {o:cZ} {k:eF} {o':cZ} (hb:J[b]? =some k)(ho:h[b]? =some o')(ho':o'≠ .dead) {r:Nat} (hr:Own (h.set b o) J r):Own h J r:=by
 obtain⟨b',k',o1,h1,h2,h3,h4⟩:=hr;by_cases e:b=b'
 ·subst e;rw [hb] at h1;injection h1 with h1;subst h1;exact⟨b,k,o',hb,ho,ho',h4⟩
 ·rw [zJ e] at h2;exact⟨b',k',o1,h1,h2,h3,h4⟩
theorem dm.set (hh:dm gl h J w) {b:Nat} {k:eF} {o':cZ} (o:cZ)(hb:J[b]? =some k)(ho':h[b]? =some o')(hnd:o'≠ .dead)
  (hsz:w'.heap.size=w.heap.size) (hkeep: ∀r,r≠k.r→w'.heap[r]? =w.heap[r]?) (hos:w'.os=w.os) (htape:w'.tape=w.tape) (hout:w'.output=w.output)
  (ho: ∀O',(∀x v,aQ J (Own h J) w x v→aQ J O' w' x v)→wY J O' w' k o):
  dm gl (h.set b o) J w'∧jE h J w (h.set b o) J w':=by
 have hOwn:Own h J k.r:=⟨b,k,o',hb,ho',hnd,rfl⟩;have ev:jE h J w (h.set b o) J w':=by
  refine⟨⟨[],by simp⟩,by omega,fun r hr hn=>⟨hkeep r (fun e=>hn (e▸hOwn)),fun hO=>hn (Vf hb ho' hnd hO)⟩,hos,htape,hout⟩
 have hblt:b<h.length:=(zA.1 ho').1;refine⟨hh.step ev (by simp [hh.len]) ?_ ?_ ?_,ev⟩
 ·intro b1 b2 k1 k2 o1 o2 h1 h2 h3 h4 h5 h6 h7;have old: ∀(b1:Nat) (k1:eF) (o1:cZ),J[b1]? =some k1→(h.set b o)[b1]? =some o1→o1≠cZ.dead→ ∃o:cZ,h[b1]? =some o∧o≠cZ.dead:=by
   intro b1 k1 o1 h1 h3 h5;by_cases e:b=b1
   ·subst e;exact⟨o',ho',hnd⟩
   ·rw [zJ e] at h3;exact⟨o1,h3,h5⟩
  obtain⟨p1,q1,r1⟩:=old b1 k1 o1 h1 h3 h5;obtain⟨p2,q2,r2⟩:=old b2 k2 o2 h2 h4 h6;exact hh.inj b1 b2 k1 k2 p1 p2 h1 h2 q1 q2 r1 r2 h7
 ·intro b1 k1 h1;rw [hsz];exact hh.lt b1 k1 h1
 ·intro b1 k1 o1 h1 h2 h3;by_cases e:b=b1
  ·subst e;rw [hb] at h1;injection h1 with h1;subst h1;rw [zI hblt] at h2;injection h2 with h2;subst h2;exact .inr (ho _ fun x v hv=>hv.evo ev)
  ·rw [zJ e] at h2;refine .inl ⟨h1,h2,hkeep _ fun he=>e ?_⟩;exact (hh.inj b1 b k1 k o1 o' h1 hb h2 ho' h3 hnd he).symm
theorem dm.kill (hh : dm gl h J w) {b : Nat} : dm gl (h.set b .dead) J w ∧ jE h J w (h.set b .dead) J w := by
  have sub : ∀ r, Own (h.set b .dead) J r → Own h J r := by
    rintro r ⟨b', k', o1, h1, h2, h3, h4⟩
    by_cases e : b = b'
    · subst e
      rw [List.getElem?_set] at h2
      split at h2
      · split at h2
        · injection h2 with h2; exact absurd h2.symm h3
        · cases h2
      · exact ⟨b, k', o1, h1, h2, h3, h4⟩
    · rw [zJ e] at h2
      exact ⟨b', k', o1, h1, h2, h3, h4⟩
  have ev : jE h J w (h.set b .dead) J w := ⟨⟨[], by simp⟩, Nat.le_refl _, fun r _ hn => ⟨rfl, fun hO => hn (sub r hO)⟩, rfl, rfl, rfl⟩
  have old : ∀ (b1 : Nat) (o1 : cZ), (h.set b cZ.dead)[b1]? = some o1 → o1 ≠ cZ.dead → h[b1]? = some o1 := by
    intro b1 o1 h1 h2
    rw [List.getElem?_set] at h1
    split at h1
    · first
        | (injection h1 with h1; exact absurd h1.symm h2)
        | (split at h1
           · injection h1 with h1; exact absurd h1.symm h2
           · cases h1)
    · exact h1
  refine ⟨hh.step ev (by simp [hh.len]) ?_ hh.lt ?_, ev⟩
  · intro b1 b2 k1 k2 o1 o2 h1 h2 h3 h4 h5 h6 h7
    exact hh.inj b1 b2 k1 k2 o1 o2 h1 h2 (old _ _ h3 h5) (old _ _ h4 h6) h5 h6 h7
  · intro b1 k1 o1 h1 h2 h3
    exact .inl ⟨h1, old _ _ h2 h3, rfl⟩
theorem dm.move (hh : dm gl h J w) {b : Nat} {k : eF} {o' : cZ} (k' : eF) (o : cZ) (hb : J[b]? = some k) (ho' : h[b]? = some o') (hnd : o' ≠ .dead) (hk : k'.r = k.r)
    (ho : ∀ J' O', (∀ x v, aQ J (Own h J) w x v → aQ J' O' w x v) → wY J' O' w k' o) :
    dm gl (h.set b .dead ++ [o]) (J ++ [k']) w ∧ jE h J w (h.set b .dead ++ [o]) (J ++ [k']) w := by
  obtain ⟨hk1, ev1⟩ := hh.kill (b := b)
  have hlen := hh.len
  have hOwn : Own h J k.r := ⟨b, k, o', hb, ho', hnd, rfl⟩
  have hblt : b < h.length := (zA.1 ho').1
  have ev : jE h J w (h.set b .dead ++ [o]) (J ++ [k']) w := by
    refine ⟨⟨[k'], rfl⟩, Nat.le_refl _, fun r hr hn => ⟨rfl, fun hO => ?_⟩, rfl, rfl, rfl⟩
    rcases Er (by simp [hlen]) hO with h1 | ⟨_, h1⟩
    · exact (ev1.keep r hr hn).2 h1
    · rw [hk] at h1; exact hn (h1 ▸ hOwn)
  have last : ∀ b1 k1, (J ++ [k'])[b1]? = some k1 → J.length ≤ b1 → b1 = J.length ∧ k1 = k' := by
    intro b1 k1 h1 hb1
    rw [zD hb1] at h1
    rcases Nat.eq_zero_or_pos (b1 - J.length) with h0 | h0
    · rw [h0] at h1; exact ⟨by omega, by simpa using h1.symm⟩
    · rw [List.getElem?_eq_none (by simp; omega)] at h1; cases h1
  have old : ∀ (b1 : Nat) (o1 : cZ), b1 < J.length → (h.set b cZ.dead ++ [o])[b1]? = some o1 → o1 ≠ cZ.dead → b1 ≠ b ∧ h[b1]? = some o1 := by
    intro b1 o1 hb1 h1 h2
    rw [zC (by simp; omega), List.getElem?_set] at h1
    split at h1
    · first
        | (injection h1 with h1; exact absurd h1.symm h2)
        | (split at h1
           · injection h1 with h1; exact absurd h1.symm h2
           · cases h1)
    · rename_i hne; exact ⟨Ne.symm hne, h1⟩
  refine ⟨hh.step ev (by simp [hlen]) ?_ ?_ ?_, ev⟩
  · intro b1 b2 k1 k2 o1 o2 h1 h2 h3 h4 h5 h6 h7
    rcases zN b1 J.length with l1 | l1 <;> rcases zN b2 J.length with l2 | l2
    · rw [zC l1] at h1
      rw [zC l2] at h2
      exact hh.inj b1 b2 k1 k2 o1 o2 h1 h2 (old _ _ l1 h3 h5).2 (old _ _ l2 h4 h6).2 h5 h6 h7
    · rw [zC l1] at h1
      obtain ⟨e1, e2⟩ := last _ _ h2 l2
      obtain ⟨n1, n2⟩ := old _ _ l1 h3 h5
      exact absurd (hh.inj b1 b k1 k o1 o' h1 hb n2 ho' h5 hnd (by rw [h7, e2, hk])) n1
    · rw [zC l2] at h2
      obtain ⟨e1, e2⟩ := last _ _ h1 l1
      obtain ⟨n1, n2⟩ := old _ _ l2 h4 h6
      exact absurd (hh.inj b2 b k2 k o2 o' h2 hb n2 ho' h6 hnd (by rw [← h7, e2, hk])) n1
    · rw [(last _ _ h1 l1).1, (last _ _ h2 l2).1]
  · intro b1 k1 h1
    rcases zN b1 J.length with l1 | l1
    · rw [zC l1] at h1; exact hh.lt b1 k1 h1
    · rw [(last _ _ h1 l1).2, hk]; exact hh.lt b k hb
  · intro b1 k1 o1 h1 h2 h3
    rcases zN b1 J.length with l1 | l1
    · rw [zC l1] at h1
      exact .inl ⟨h1, (old _ _ l1 h2 h3).2, rfl⟩
    · obtain ⟨e1, e2⟩ := last _ _ h1 l1
      rw [e1, zD (by simp; omega)] at h2
      have : o1 = o := by
        simp only [List.length_set] at h2
        rw [show J.length - h.length = 0 by omega] at h2
        simpa using h2.symm
      subst this
      rw [e2]
      exact .inr (ho _ _ fun x v hv => hv.evo ev)
end
end Go.Abs
end
section
namespace Go.Abs
open Go
def AV.core:AV→AV | .opt _ x=>x | x=>x
def AV.gd:AV→Bool | .opt g _=>g | _=>true
section
variable {J : List eF} {O : Nat → Prop} {w : World}
theorem aQ.core {x:AV} {v:Value} (h:aQ J O w x v)(hg:x.gd=true):aQ J O w x.core v:=by
 cases h with
 | opt g x v h h0=>exact h hg
 | _=>first | exact .bool _ | exact .int _ _ | exact .str _ | exact .lit _ ‹_› | exact .agg _ _ ‹_› ‹_› ‹_› | exact .tup _ _ ‹_› ‹_› | exact .nil | exact .e0 _ | exact .roNil | exact .ro _ _ _ _ _ ‹_› ‹_› ‹_› ‹_› ‹_› ‹_› ‹_› | exact .rop _ _ _ _ _ _ ‹_› ‹_› ‹_› ‹_› ‹_› ‹_› | exact .own _ _ _ _ _ _ ‹_› ‹_› ‹_› ‹_› | exact .ptr _ _ _ _ ‹_› | exact .fn _ _ _ _ _ ‹_› ‹_› ‹_› ‹_› | exact .map _ _ ‹_› | exact .obj _ _ ‹_› | exact .iface _ _ _ ‹_› | exact .junk _
end
def yM:Value→AV
 | .bool b=> .bool b
 | .int k n=> .int k n
 | .string s=> .str s.data.toList
 | .slice none 0 0=> .nil
 | v=> .lit v
def Zz:Value→AV
 | .agg cs=>match cs.toList.all (·.oneCell') with
  | true=> .agg (cs.toList.map yM)
  | false=> .junk
 | .tuple _=> .junk
 | v=>yM v
theorem AJ {J:List eF} {O:Nat→Prop} {w:World} {v:Value} (h:v.oneCell'=true):aQ J O w (yM v) v:=by
 unfold yM;split
 ·exact .bool _
 ·exact .int _ _
 ·rename_i s;have:s=⟨s.data.toList.toArray⟩:=by simp
  conv=>rhs;rw [this]
  exact .str _
 ·exact .nil
 ·exact .lit _ h
theorem kE {J:List eF} {O:Nat→Prop} {w:World} {l:List Value} (h: ∀v∈l,v.oneCell'=true):bX J O w (l.map yM) l:=by
 refine⟨by simp,fun i x v hx hv=> ?_⟩;simp only [List.getElem?_map,hv,Option.map_some,Option.some.injEq] at hx;subst hx;exact AJ (h v (zF hv))
theorem Un {J:List eF} {O:Nat→Prop} {w:World} (v:Value):aQ J O w (Zz v) v:=by
 unfold Zz;split
 ·rename_i cs;split
  ·rename_i hall;rw [List.all_eq_true] at hall;have:=kE (J:=J) (O:=O) (w:=w) hall;have e:cs=cs.toList.toArray:=by simp
   conv=>rhs;rw [e]
   exact .agg _ _ this.1 hall this.2
  ·exact .junk _
 ·exact .junk _
 ·rename_i h1 h2;refine AJ ?_;cases v <;> first | rfl | (exfalso;first | exact h1 _ rfl | exact h2 _ rfl)
def ev (gl:aR)(fr:aP):Operand→AV
 | .tmp t=>fr t
 | .const v=>Zz v
 | .global g=>match gl g with
  | some cs=> .rop [cs] 0 0
  | none=> .lit (.pointer (some ⟨g,0,none⟩))
 | .func f=> .fn (.func f) [] []
section
variable {gl : aR} {N : Nat} {J : List eF} {fr : aP} {h : ak} {a : Act} {w : World}
theorem qN (hh:dm gl h J w) {x:Operand} (ht: ∀t,x= .tmp t→aQ J (Own h J) w (fr t) (a.tmps.getD t undef)):aQ J (Own h J) w (ev gl fr x) (a.eval x):=by
 cases x with
 | tmp t=>exact ht t rfl
 | const v=>exact Un v
 | global g=>
  simp only [ev,Act.eval];split
  ·rename_i cs hg;exact hh.glob g cs hg
  ·exact .lit _ rfl
 | func f=>exact .fn _ [] [] [] [] rfl rfl (by simp) (by simp)
def gB (fr:aP):Option Tmp→AV→aP
 | none,_=>fr
 | some d,x=>fun t=>if t=d then x else fr t
theorem qB.put (r:qB gl N J fr h a w) {dst:Option Tmp} {x:AV} {v:Value} (hd: ∀d,dst=some d→d<N)(hv:aQ J (Own h J) w x v):
  qB gl N J (gB fr dst x) h (a.put dst v) w:=by
 cases dst with
 | none=>exact r
 | some d=>
  refine⟨by simp [Act.put,r.size],r.defers,fun t=> ?_,r.heap⟩;have hd':=hd d rfl;by_cases htd:t=d
  ·subst htd;have hs:t<a.tmps.size:=by rw [r.size];exact hd'
   simp only [gB,if_true,Act.put];rw [Array.getD_eq_getD_getElem?,Array.getElem?_setIfInBounds_self_of_lt hs];exact hv
  ·have:=r.tmps t;simp only [gB,htd,if_false,Act.put];rw [Array.getD_eq_getD_getElem?,Array.getElem?_setIfInBounds_ne (Ne.symm htd),←Array.getD_eq_getD_getElem?];exact this
end
inductive TK where
 | bool | int (k:IntKind) | string | slice (e:TypeId) | array (n:Nat) (e:TypeId) | map (k e:TypeId) | struct (fs:List (Nat×Nat×TypeId)) | pointer (e:TypeId) | func | iface | other
structure TI where
 ok:Bool
 agg:Bool
 cells:Nat
 bytes:Nat
 kind:TK
 zok:Bool
 zero:List AV
def sW (P:Program):TypeDesc→TK
 | .bool=> .bool
 | .int k=> .int k
 | .string=> .string
 | .slice e=> .slice e
 | .array n e=> .array n e
 | .map k e=> .map k e
 | .struct fs=> .struct (fs.toList.map fun f=>(f.offset,P.cellsOf f.type,f.type))
 | .pointer e=> .pointer e
 | .func _ _ _=> .func
 | .interface _=> .iface
 | _=> .other
def tH:TypeDesc→Bool
 | .struct _ | .array _ _=>true
 | _=>false
def Jw:Value→Bool
 | .agg _=>true
 | _=>false
def PV (d:TypeDesc):Option Value→Bool
 | some z=>z.cells.toList.all (·.oneCell') && (Jw z==tH d)
 | none=>false
def ax (P : Program) (t : TypeId) : TI := match P.underlying t, P.info? t with
  | some d, some i => { ok := true, agg := tH d, cells := i.size, bytes := i.bytes, kind := sW P d, zok := PV d i.zero,
                        zero := (match i.zero with | some z => z.cells.toList.map yM | none => []) }
  | _, _ => { ok := false, agg := false, cells := 0, bytes := 0, kind := .other, zok := false, zero := [] }
theorem dX {P : Program} {t : TypeId} (h : (ax P t).ok = true) : ∃ d i, P.underlying t = some d ∧ P.info? t = some i ∧
    ax P t = { ok := true, agg := tH d, cells := i.size, bytes := i.bytes, kind := sW P d, zok := PV d i.zero,
                  zero := (match i.zero with | some z => z.cells.toList.map yM | none => []) } := by
  unfold ax at h ⊢
  split at h
  · rename_i d i hd hi; exact ⟨d, i, hd, hi, by simp [hd, hi]⟩
  · simp at h
theorem lY {P:Program} {t:TypeId} (h:(ax P t).ok=true)(w:World):(isAgg t).run P w= .ok (ax P t).agg w:=by
 obtain⟨d,i,hd,hi,e⟩:=dX h;rw [e];simp only [isAgg,Sem.run_bind,run_underlying hd,Result.andThen_ok];cases d <;> rfl
theorem cK {P:Program} {t:TypeId} (h:(ax P t).ok=true)(w:World):(sizeOf t).run P w= .ok (ax P t).cells w:=by
 obtain⟨d,i,hd,hi,e⟩:=dX h;rw [e];simp [sizeOf,typeInfo,hi]
theorem fT {P:Program} {t:TypeId} (h:(ax P t).ok=true)(hz:(ax P t).zok=true)(w:World):
  ∃z:Value,(zeroValue t).run P w= .ok z w∧(∀v∈z.cells.toList,v.oneCell'=true)∧(ax P t).zero=z.cells.toList.map yM∧Jw z=(ax P t).agg:=by
 obtain⟨d,i,hd,hi,e⟩:=dX h;rw [e] at hz ⊢;simp only at hz ⊢
 cases hzz:i.zero with
 | none=>simp [hzz,PV] at hz
 | some z=>
  simp only [hzz,PV,Bool.and_eq_true,List.all_eq_true,beq_iff_eq] at hz;exact⟨z,by simp [zeroValue,typeInfo,hi,hzz],hz.1,rfl,hz.2⟩
theorem dF {P:Program} {t e:TypeId} (h:(ax P t).kind= .slice e):P.underlying t=some (.slice e)∧(ax P t).ok=true:=by
 by_cases hok:(ax P t).ok=true
 ·obtain⟨d,i,hd,hi,e'⟩:=dX hok;rw [e'] at h;simp only at h;cases d <;> simp [sW] at h
  subst h;exact⟨hd,hok⟩
 ·unfold ax at h hok;split at h
  ·rename_i hd hi;simp [hd,hi] at hok
  ·simp at h
theorem U5 {P:Program} {t:TypeId} (h:(ax P t).kind≠ .other):(ax P t).ok=true:=by
 unfold ax at h ⊢;split
 ·rfl
 ·rename_i hx;split at h
  ·rename_i h1 h2;exact absurd h2 (hx _ _ h1)
  ·simp at h
theorem iM {P:Program} {t:TypeId} {k:TK} (h:(ax P t).kind=k)(hk:k≠ .other): ∃d,P.underlying t=some d∧sW P d=k∧(ax P t).ok=true∧(ax P t).agg=tH d:=by
 have hok:(ax P t).ok=true:=U5 (by rw [h];exact hk);obtain⟨d,i,hd,hi,e⟩:=dX hok;refine⟨d,hd,?_,hok,?_⟩
 ·rw [e] at h;exact h
 ·rw [e]
theorem add_add' (a:Addr)(m n:Nat):(a.add m).add n=a.add (m+n):=by
 unfold Addr.add;by_cases hm:m=0
 ·subst hm;simp
 ·by_cases hn:n=0
  ·subst hn;simp [hm]
  ·have: ¬(m+n=0):=by omega
   simp [hm,hn,Nat.add_assoc]
theorem mM (b o n:Nat):Addr.add ⟨b,o,none⟩ n=⟨b,o+n,none⟩:=by
 unfold Addr.add;split
 ·rename_i h;subst h;rfl
 ·rfl
def hcells (h:ak)(b:Nat):List (List AV):=match h[b]? with
 | some (.cells _ es)=>es
 | _=>[]
def hsz (h:ak)(b:Nat):Nat:=match h[b]? with
 | some (.cells n _)=>n
 | _=>0
def hmap (h:ak)(b:Nat):List (AV×AV):=match h[b]? with
 | some (.map kvs)=>kvs
 | _=>[]
def isMap (h:ak)(b:Nat):Bool:=match h[b]? with
 | some (.map _)=>true
 | _=>false
def Wd (J:List eF)(O:Nat→Prop)(w:World)(a:Addr)(e:List AV):Prop:=
 ∀(c:Nat) (x:AV),e[c]? =some x→ ∃v,w.cell? (a.add c)=some v∧v.oneCell'=true∧aQ J O w x v
section
variable {P : Program} {gl : aR} {J : List eF} {h : ak} {w : World} {O : Nat → Prop}
theorem cell_of_heap {w:World} {r off:Nat} {vs:Array Value} {T:TypeId} {fz:Nat×Nat} (hh:w.heap[r]? =some (.cells vs T fz)):w.cell? ⟨r,off,none⟩=vs[off]? :=by
 simp [World.cell?,hh]
theorem Dr (hh:dm gl h J w) {b i c:Nat} {e:List AV} {v:Value} (hv:aQ J (Own h J) w (.ptr b i c) v)(hi:(hcells h b)[i]? =some e):
  ∃(k:eF),J[b]? =some k∧v= .pointer (some ((⟨k.r,k.base+i*k.n,none⟩:Addr).add c))∧e.length=k.n∧Wd J (Own h J) w ⟨k.r,k.base+i*k.n,none⟩ e:=by
 cases hv with
 | ptr _ _ _ k hb=>
  have ho: ∃n es,h[b]? =some (.cells n es)∧es[i]? =some e:=by
   unfold hcells at hi;split at hi
   ·rename_i n es he;exact⟨n,es,he,hi⟩
   ·simp at hi
  obtain⟨n,es,he,hei⟩:=ho;obtain⟨hkn,hn,hcap,hlen,vs,T,hheap,hsz,hcell⟩:=hh.obj b k _ hb he;refine⟨k,hb,by rw [mM,Nat.add_assoc],hlen i e hei,fun c' x hx=> ?_⟩;obtain⟨v,hv1,hv2,hv3⟩:=hcell i e c' x hei hx;exact⟨v,by rw [mM,cell_of_heap hheap,Nat.add_assoc];exact hv1,hv2,hv3⟩
theorem KQ {es:List (List AV)} {i c:Nat} {e:List AV} {v:Value} (hv:aQ J O w (.rop es i c) v)(hi:es[i]? =some e):
  ∃(a:Addr),v= .pointer (some (a.add c))∧Wd J O w a e:=by
 cases hv with
 | rop _ _ _ a n f hn hO hl hc h1 h2=>
  refine⟨a.add (i*n),by rw [add_add'],fun c' x hx=> ?_⟩;exact⟨f i c',by rw [add_add'];exact hc i e c' x hi hx,h1 i e c' x hi hx,h2 i e c' x hi hx⟩
def ui (T:TI)(e:List AV)(c:Nat):AV:=match T.agg with
 | true=> .agg ((e.drop c).take T.cells)
 | false=>e.getD c .junk
def mr (T:TI)(e:List AV)(c:Nat):Prop:=match T.agg with
 | true=>c+T.cells≤e.length
 | false=>c<e.length
theorem sj {t:TypeId} {a:Addr} {e:List AV} {c:Nat} (ht:(ax P t).ok=true)(hr:Wd J O w a e)(hc:mr (ax P t) e c):
  ∃v,(loadVar t (a.add c)).run P w= .ok v w∧aQ J O w (ui (ax P t) e c) v:=by
 simp only [loadVar,Sem.run_bind,lY ht,Result.andThen_ok];unfold mr at hc;unfold ui
 cases hag:(ax P t).agg with
 | true=>
  simp only [hag] at hc ⊢;simp only [if_true,Sem.run_bind,cK ht,Result.andThen_ok]
  let f:Nat→Value:=fun j=>(w.cell? ((a.add c).add j)).getD undef
  have hf: ∀j,j<(ax P t).cells→w.cell? ((a.add c).add j)=some (f j)∧(f j).oneCell'=true∧ ∀x,e[c+j]? =some x→aQ J O w x (f j):=by
   intro j hj;have hx:e[c+j]? =some (e[c+j]'(by omega)):=zB (by omega);obtain⟨v,h1,h2,h3⟩:=hr (c+j) _ hx;have e1:w.cell? ((a.add c).add j)=some v:=by rw [add_add'];exact h1
   have e2:f j=v:=by simp [f,e1]
   refine⟨by rw [e2];exact e1,by rw [e2];exact h2,fun x hx'=> ?_⟩;rw [hx] at hx';injection hx' with hx';rw [e2,←hx'];exact h3
  rw [run_loadCells w (a.add c) (ax P t).cells f (fun j hj=>(hf j hj).1)];simp only [Result.andThen_ok,Sem.run_pure];refine⟨_,rfl,.agg _ _ (by simp;omega) ?_ ?_⟩
  ·intro v hv;obtain⟨j,hj,rfl⟩:=List.mem_map.1 hv;exact (hf j (List.mem_range.1 hj)).2.1
  ·intro i x v hx hv;have hi:i<(ax P t).cells:=by
    rcases zN i (ax P t).cells with h' | h'
    ·exact h'
    ·rw [List.getElem?_eq_none (by simp;omega)] at hv;cases hv
   simp only [List.getElem?_map,List.getElem?_range hi,Option.map_some,Option.some.injEq] at hv;subst hv;rw [List.getElem?_take_of_lt hi,List.getElem?_drop] at hx;exact (hf i hi).2.2 x hx
 | false=>
  simp only [hag] at hc ⊢;simp only [Bool.false_eq_true,if_false,run_load];have hx:e[c]? =some e[c]:=zB hc;obtain⟨v,h1,h2,h3⟩:=hr c _ hx;refine⟨v,by rw [h1],?_⟩;simpa [List.getD,hx] using h3
theorem Eu {t:TypeId} {cs:List AV} {off:Nat} {v:Value} (ht:(ax P t).ok=true)(hv:aQ J O w (.agg cs) v)(hc:mr (ax P t) cs off):
  ∃vs:List Value,v= .agg vs.toArray∧ ∃u,(part t vs.toArray off).run P w= .ok u w∧aQ J O w (ui (ax P t) cs off) u:=by
 cases hv with
 | agg _ vs hl h1 hh=>
  refine⟨vs,rfl,?_⟩;simp only [part,Sem.run_bind,lY ht,Result.andThen_ok];unfold mr at hc;unfold ui
  cases hag:(ax P t).agg with
  | true=>
   simp only [hag] at hc ⊢;simp only [if_true,Sem.run_bind,cK ht,Result.andThen_ok,Sem.run_pure];have e1:vs.toArray.extract off (off+(ax P t).cells)=((vs.drop off).take (ax P t).cells).toArray:=by
    simp [List.extract_toArray,List.extract_eq_take_drop]
   rw [e1];refine⟨_,rfl,.agg _ _ (by simp [hl]) ?_ ?_⟩
   ·intro u hu;exact h1 u (List.mem_of_mem_drop (List.mem_of_mem_take hu))
   ·intro i x u hx hu;have hi:i<(ax P t).cells:=by
     rcases zN i (ax P t).cells with h' | h'
     ·exact h'
     ·rw [List.getElem?_eq_none (by simp;omega)] at hu;cases hu
    rw [List.getElem?_take_of_lt hi,List.getElem?_drop] at hx hu;exact hh _ x u hx hu
  | false=>
   simp only [hag] at hc ⊢;simp only [Bool.false_eq_true,if_false];have hx:cs[off]? =some cs[off]:=zB hc;have hu:vs[off]? =some (vs[off]'(by omega)):=zB (by omega);have hua:vs.toArray[off]? =some (vs[off]'(by omega)):=by simp
   refine⟨vs[off]'(by omega),by rw [hua];rfl,?_⟩;simpa [List.getD,hx] using hh off _ _ hx hu
end
end Go.Abs
end
section
namespace Go.Abs
open Go
def WZ (op:BinOp)(k:IntKind)(a b:Int):AV:=match op with
 | .add=> .int k (k.wrap (a+b))
 | .sub=> .int k (k.wrap (a - b))
 | .mul=> .int k (k.wrap (a*b))
 | .quo=> .int k (k.wrap (a.tdiv b))
 | .rem=> .int k (a.tmod b)
 | .and=> .int k (bits .and k a b)
 | .or=> .int k (bits .or k a b)
 | .xor=> .int k (bits .xor k a b)
 | .andNot=> .int k (bits .andNot k a b)
 | .shl=> .int k (k.wrap (a*2^(min b.toNat k.bits)))
 | .shr=> .int k (a.fdiv (2^(min b.toNat k.bits)))
 | .eql=> .bool (a==b)
 | .neq=> .bool (a !=b)
 | .lss=> .bool (decide (a<b))
 | .leq=> .bool (decide (a≤b))
 | .gtr=> .bool (decide (b<a))
 | .geq=> .bool (decide (b≤a))
def Jr (op:BinOp)(k k':IntKind)(b:Int):Prop:=match op with
 | .quo | .rem=>k=k'∧b≠0
 | .shl | .shr=>0≤b
 | _=>k=k'
def Xr (op:BinOp)(a b:List UInt8):AV:=match op with
 | .add=> .str (a++b)
 | .eql=> .bool (a==b)
 | .neq=> .bool (!(a==b))
 | .lss=> .bool (Op.bytesLess a b)
 | .leq=> .bool (Op.bytesLess a b || a==b)
 | .gtr=> .bool (!(Op.bytesLess a b || a==b))
 | .geq=> .bool (!(Op.bytesLess a b))
 | _=> .junk
def J4 (op:BinOp)(a b:List UInt8):Prop:=match op with
 | .add=>a.length+b.length≤9223372036854775807
 | .eql | .neq | .lss | .leq | .gtr | .geq=>True
 | _=>False
inductive BK where | int | str | bool deriving DecidableEq
def nJ:AV→AV→Bool
 | .int _ a,.int _ b=>a==b
 | .str a,.str b=>a==b
 | .bool a,.bool b=>a==b
 | _,_=>false
def ku:List AV→List AV→Bool
 | [],[]=>true
 | x::xs,y::ys=>nJ x y && ku xs ys
 | _,_=>false
def De:BK→AV→AV→Prop
 | .int,.int k _,.int k' _=>k=k'
 | .str,.str _,.str _=>True
 | .bool,.bool _,.bool _=>True
 | _,_,_=>False
def nL:List BK→List AV→List AV→Prop
 | [],[],[]=>True
 | b::bs,x::xs,y::ys=>De b x y∧nL bs xs ys
 | _,_,_=>False
def kz (flat:TypeId→Option (List BK)):Nat→List Field→Option (List BK)
 | _,[]=>some []
 | off,f::fs=>if f.name≠ "_" ∧f.offset=off then
   match flat f.type with
   | some b=>match kz flat (off+b.length) fs with
    | some r=>some (b++r)
    | none=>none
   | none=>none
  else none
def flat (P:Program):Nat→TypeId→Option (List BK)
 | 0,_=>none
 | d+1,t=>match P.underlying t,P.info? t with
  | some (.int _),some i=>if i.size=1 then some [.int] else none
  | some .string,some i=>if i.size=1 then some [.str] else none
  | some .bool,some i=>if i.size=1 then some [.bool] else none
  | some (.struct fs),some i=>if P.stoodInHeld t then none else
   match kz (flat P d) 0 fs.toList with
   | some r=>if r.length=i.size then some r else none
   | none=>none
  | some (.array n e),some i=>match flat P d e with
   | some r=>if n*r.length=i.size∧P.cellsOf e=r.length then some ((List.range n).flatMap fun _=>r) else none
   | none=>none
  | _,_=>none
def ah:AV→List AV
 | .agg cs=>cs
 | x=>[x]
def aelems (h:ak):AV→List (List AV)
 | .ro es=>es
 | .own b off len=>((hcells h b).drop off).take len
 | .str s=>s.map fun c=>[.int .u8 (c.toNat:Int)]
 | _=>[]
def dY (T:TI)(x:AV):Prop:=match T.agg,x with
 | true,.agg _=>True
 | true,_=>False
 | false,.agg _=>False
 | false,_=>True
def Wi (op:BinOp)(x y:AV):AV:=match x,y with
 | .int k a,.int _ b=>WZ op k a b
 | .str a,.str b=>Xr op a b
 | .bool a,.bool b=>match op with
  | .eql=> .bool (a==b)
  | .neq=> .bool (!(a==b))
  | _=> .junk
 | .agg xs,.agg ys=>match op with
  | .eql=> .bool (ku xs ys)
  | .neq=> .bool (!(ku xs ys))
  | _=> .junk
 | .nil,.nil=>match op with
  | .eql=> .bool true
  | .neq=> .bool false
  | _=> .junk
 | .own _ _ _,.nil=>match op with
  | .eql=> .bool false
  | .neq=> .bool true
  | _=> .junk
 | _,_=> .junk
def I5 (P:Program)(op:BinOp)(t:TypeId)(x y:AV):Prop:=match x,y with
 | .int k _,.int k' b=>Jr op k k' b
 | .str a,.str b=>J4 op a b
 | .bool _,.bool _=>(op= .eql∨op= .neq)∧(ax P t).kind= .bool
 | .agg xs,.agg ys=>(op= .eql∨op= .neq)∧P.eqGuardType P.depth t=false∧(ax P t).agg=true∧ ∃bs,flat P 50 t=some bs∧nL bs xs ys
 | .nil,.nil | .own _ _ _,.nil=>(op= .eql∨op= .neq)∧ ∃e,(ax P t).kind= .slice e
 | _,_=>False
def ZH (op:UnOp)(x:AV):AV:=match op,x with
 | .neg,.int k n=> .int k (k.wrap (0 - n))
 | .not,.bool b=> .bool (!b)
 | _,_=> .junk
def OZ (op:UnOp)(x:AV):Prop:=match op,x with
 | .neg,.int _ _=>True
 | .not,.bool _=>True
 | _,_=>False
def Kt (P:Program)(dst:TypeId)(x:AV):AV:=match (ax P dst).kind,x with
 | .int k,.int _ n=> .int k (k.wrap n)
 | .string,.str s=> .str s
 | _,_=> .junk
def I7 (P:Program)(src dst:TypeId)(x:AV):Prop:=(ax P src).ok=true∧match (ax P dst).kind,x with
 | .int _,.int _ _=>True
 | .string,.str _=>True
 | _,_=>False
def iy (kvs:List (AV×AV))(k:AV):Option AV:=(kvs.find? fun p=>ku (ah k) (ah p.1)).map (·.2)
def kH (T:TI):AV:=match T.agg with
 | true=> .agg T.zero
 | false=>T.zero.getD 0 .junk
def eY (hi:Option Int)(len:Nat):Nat:=(hi.map Int.toNat).getD len
def aS (x:AV)(lo hi:Option Int):AV:=match x with
 | .str s=> .str ((s.take (eY hi s.length)).drop ((lo.map Int.toNat).getD 0))
 | .ro es=> .ro ((es.take (eY hi es.length)).drop ((lo.map Int.toNat).getD 0))
 | .own b off len=> .own b (off+(lo.map Int.toNat).getD 0) (eY hi len - (lo.map Int.toNat).getD 0)
 | .nil=> .nil
 | .e0=> .e0
 | _=> .junk
def tQ (lo:Option Int)(hi:Nat):Prop:=match lo with
 | none=>True
 | some l=>0≤l∧l≤hi
def eD (len:Nat)(lo hi:Option Int):Prop:=tQ hi len∧tQ lo (eY hi len)
def jv:AV→Int
 | .int _ n=>n
 | _=>0
def isInt:AV→Prop
 | .int _ _=>True
 | _=>False
def alen (h:ak):AV→Int
 | .str s=>s.length
 | .ro es=>es.length
 | .own _ _ len=>len
 | .map b=>(hmap h b).length
 | _=>0
def AV.bval:AV→Bool
 | .bool b=>b
 | _=>false
def yE:AV→Prop
 | .bool _=>True
 | _=>False
def Tn (c a b:AV):AV:=match c with
 | .bool t=> .bool (bif t then a.bval else b.bval)
 | _=> .junk
def fieldsOf (T:TI):List (Nat×Nat×TypeId):=match T.kind with
 | .struct fs=>fs
 | _=>[]
def oG (T:TI)(f:Nat):Nat:=((fieldsOf T).getD f (0,0,0)).1
def Sj (T:TI)(f:Nat):Nat:=((fieldsOf T).getD f (0,0,0)).2.1
def fty (T:TI)(f:Nat):TypeId:=((fieldsOf T).getD f (0,0,0)).2.2
def splice {α:Type} (e:List α)(c:Nat)(cs:List α):List α:=e.take c++cs++e.drop (c+cs.length)
def Cc (T:TI):List (Nat×AV)→List AV→List AV
 | [],cs=>cs
 | (i,x)::r,cs=>Cc T r (splice cs (oG T i) (ah x))
def nD (n:Nat):List (Nat×AV)→List AV→List AV
 | [],cs=>cs
 | (i,x)::r,cs=>nD n r (splice cs (i*n) (ah x))
def AV.solid:AV→Bool
 | .junk | .tup _ | .opt _ _=>false
 | _=>true
def yj (T:TI):List (Nat×AV)→Prop
 | []=>True
 | (i,x)::r=>x.solid=true∧i<(fieldsOf T).length∧(ah x).length=Sj T i∧oG T i+Sj T i≤T.cells∧yj T r
def qF (n:Nat)(cells:Nat):List (Nat×AV)→Prop
 | []=>True
 | (i,x)::r=>x.solid=true∧(ah x).length=n∧i*n+n≤cells∧qF n cells r
def dL (P:Program)(t:TypeId):Nat:=match (ax P t).kind with
 | .slice e=>(ax P e).cells
 | _=>0
def loadV (P:Program)(h:ak)(t:TypeId):AV→AV
 | .ptr b i c=>ui (ax P t) ((hcells h b).getD i []) c
 | .rop es i c=>ui (ax P t) (es.getD i []) c
 | _=> .junk
def loadOk (P:Program)(h:ak)(t:TypeId):AV→Prop
 | .ptr b i c=>i<(hcells h b).length∧mr (ax P t) ((hcells h b).getD i []) c
 | .rop es i c=>i<es.length∧mr (ax P t) (es.getD i []) c
 | _=>False
def kw (P:Program)(s:TypeId)(f:Nat):AV→AV
 | .ptr b i c=> .ptr b i (c+oG (ax P s) f)
 | .rop es i c=> .rop es i (c+oG (ax P s) f)
 | _=> .junk
def faddrOk:AV→Prop
 | .ptr _ _ _=>True
 | .rop _ _ _=>True
 | _=>False
def Jo (P:Program)(s:TypeId)(f:Nat):AV→AV
 | .agg cs=>ui (ax P (fty (ax P s) f)) cs (oG (ax P s) f)
 | _=> .junk
def Ck (P:Program)(s:TypeId)(f:Nat):AV→Prop
 | .agg cs=>mr (ax P (fty (ax P s) f)) cs (oG (ax P s) f)
 | _=>False
def dO (P:Program)(k:TK)(x:AV)(n:Int):AV:=match k,x with
 | .slice _,.own b off _=> .ptr b (off+n.toNat) 0
 | .slice _,.ro es=> .rop es n.toNat 0
 | .array _ e,.ptr b i c=> .ptr b i (c+n.toNat* (ax P e).cells)
 | .array _ e,.rop es i c=> .rop es i (c+n.toNat* (ax P e).cells)
 | _,_=> .junk
def iaddrOk (P:Program)(h:ak)(k:TK)(x:AV)(n:Int):Prop:=match k,x with
 | .slice e,.own b off len=>(ax P e).ok=true∧n<len∧off+len≤(hcells h b).length∧hsz h b=(ax P e).cells
 | .slice e,.ro es=>(ax P e).ok=true∧n<es.length∧(es.getD n.toNat []).length=(ax P e).cells
 | .array m e,.ptr _ _ _=>(ax P e).ok=true∧n<m
 | .array m e,.rop _ _ _=>(ax P e).ok=true∧n<m
 | _,_=>False
def Ju (P:Program)(k:TK)(x:AV)(n:Int):AV:=match k,x with
 | .string,.str s=> .int .u8 ((s.getD n.toNat 0).toNat:Int)
 | .array _ e,.agg cs=>ui (ax P e) cs (n.toNat* (ax P e).cells)
 | _,_=> .junk
def Cm (P:Program)(k:TK)(x:AV)(n:Int):Prop:=match k,x with
 | .string,.str s=>n<s.length
 | .array m e,.agg cs=>(ax P e).ok=true∧n<m∧mr (ax P e) cs (n.toNat* (ax P e).cells)
 | _,_=>False
def mZ (T:TI):Prop:=T.ok=true∧T.zok=true∧T.zero.length=T.cells
def Pw (P:Program)(h:ak)(kd:TK)(x k:AV)(ok:Bool):AV:=match kd,x with
 | .map _ e,.map b=>match ok with
  | true=> .tup [(iy (hmap h b) k).getD (kH (ax P e)),.bool (iy (hmap h b) k).isSome]
  | false=>(iy (hmap h b) k).getD (kH (ax P e))
 | .map _ e,.lit (.map none)=>match ok with
  | true=> .tup [kH (ax P e),.bool false]
  | false=>kH (ax P e)
 | _,_=> .junk
def bC (P:Program)(t:TypeId)(k:AV)(kvs:List (AV×AV)):Prop:=dY (ax P t) k∧ ∃bs,flat P 50 t=some bs∧nL bs (ah k) (ah k)∧ ∀p∈kvs,dY (ax P t) p.1∧nL bs (ah k) (ah p.1)
def JD (P:Program)(h:ak)(kd:TK)(x k:AV):Prop:=match kd,x with
 | .map t e,.map b=>isMap h b=true∧mZ (ax P e)∧bC P t k (hmap h b)
 | .map t e,.lit (.map none)=>mZ (ax P e)∧bC P t k []
 | _,_=>False
def yw (i:Nat):AV→AV
 | .tup l=>l.getD i .junk
 | _=> .junk
def vM (i:Nat):AV→Prop
 | .tup l=>i<l.length
 | _=>False
def Jh (P:Program)(t:TypeId)(parts:List (Nat×AV)):AV:=match (ax P t).kind with
 | .struct _=> .agg (Cc (ax P t) parts (ax P t).zero)
 | .array _ e=> .agg (nD (ax P e).cells parts (ax P t).zero)
 | _=> .junk
def Jg (P:Program)(t:TypeId)(parts:List (Nat×AV)):Prop:=(ax P t).zok=true∧(ax P t).zero.length=(ax P t).cells∧match (ax P t).kind with
 | .struct fs=>yj (ax P t) parts∧ ∀p∈fs,(ax P p.2.2).ok=true
 | .array _ e=>(ax P e).ok=true∧qF (ax P e).cells (ax P t).cells parts
 | _=>False
def aU (P:Program)(h:ak)(k:TK)(x:AV)(lo hi:Option Int):Prop:=match k,x with
 | .string,.str s=>eD s.length lo hi
 | .slice e,.ro es=>(ax P e).ok=true∧(∀y∈es,y.length=(ax P e).cells)∧eD es.length lo hi
 | .slice e,.own b off len=>(ax P e).ok=true∧0<hsz h b∧hsz h b=(ax P e).cells∧eD len lo hi
 | .slice e,.nil=>(ax P e).ok=true∧eD 0 lo hi
 | .slice e,.e0=>(ax P e).ok=true∧eD 0 lo hi
 | _,_=>False
def yl (h:ak)(b:Builtin)(xs:List AV):AV:=match b,xs with
 | .len,[x]=> .int .i64 (alen h x)
 | .min,[.int k x,.int _ y]=> .int k (min x y)
 | .max,[.int k x,.int _ y]=> .int k (max x y)
 | .min,[.int k x,.int _ y,.int _ z]=> .int k (min (min x y) z)
 | .max,[.int k x,.int _ y,.int _ z]=> .int k (max (max x y) z)
 | _,_=> .junk
def lenOk (h:ak)(k:TK)(x:AV):Prop:=match k,x with
 | .string,.str _=>True
 | .slice _,.ro _=>True
 | .slice _,.own _ _ _=>True
 | .slice _,.nil=>True
 | .slice _,.e0=>True
 | .map _ _,.map b=>isMap h b=true
 | .map _ _,.lit (.map none)=>True
 | _,_=>False
def qH (P:Program)(h:ak)(b:Builtin)(ts:List TypeId)(xs:List AV):Prop:=match b,xs with
 | .len,[x]=>match ts with
  | [t]=>lenOk h (ax P t).kind x
  | _=>False
 | .min,[.int _ _,.int _ _]=>True
 | .max,[.int _ _,.int _ _]=>True
 | .min,[.int _ _,.int _ _,.int _ _]=>True
 | .max,[.int _ _,.int _ _,.int _ _]=>True
 | _,_=>False
def N8 (c a b:AV):Prop:=match c.core with
 | .bool t=>(t=true→a.gd=true∧yE a.core)∧(t=false→b.gd=true∧yE b.core)
 | _=>False
def SY:AV→Prop
 | .ptr _ _ _=>True
 | .fn (.func _) _ _=>True
 | _=>False
def Js (k:TK):Prop:=match k with
 | .iface=>False
 | _=>True
def xy:Option AV→Prop
 | none=>True
 | some x=>x.gd=true∧isInt x.core
def Gy (P:Program)(gl:aR)(fr:aP)(h:ak):Op→AV
 | .move x=>(ev gl fr x).core
 | .assign x=>(ev gl fr x).core
 | .pick c a b=>Tn (ev gl fr c).core (ev gl fr a).core (ev gl fr b).core
 | .build t parts=>Jh P t (parts.toList.map fun p=>(p.1,(ev gl fr p.2).core))
 | .load t a=>loadV P h t (ev gl fr a).core
 | .nilCheck x=>(ev gl fr x).core
 | .binOp op _ x y _=>Wi op (ev gl fr x).core (ev gl fr y).core
 | .unOp op _ x=>ZH op (ev gl fr x).core
 | .convert _ dst x=>Kt P dst (ev gl fr x).core
 | .makeInterface t x=> .iface t (ev gl fr x).core
 | .makeFunc f first caps=> .fn f (first.toList.map fun x=>(ev gl fr x).core) (caps.toList.map fun x=>(ev gl fr x).core)
 | .slice _ x lo hi _=>aS (ev gl fr x).core (lo.map fun x=>jv (ev gl fr x).core) (hi.map fun x=>jv (ev gl fr x).core)
 | .fieldAddr s x f=>kw P s f (ev gl fr x).core
 | .field s x f=>Jo P s f (ev gl fr x).core
 | .indexAddr t x ix=>dO P (ax P t).kind (ev gl fr x).core (jv (ev gl fr ix).core)
 | .index t x ix=>Ju P (ax P t).kind (ev gl fr x).core (jv (ev gl fr ix).core)
 | .lookup t x ix ok=>Pw P h (ax P t).kind (ev gl fr x).core (ev gl fr ix).core ok
 | .extract x i=>yw i (ev gl fr x).core
 | _=> .junk
def Vy (P:Program)(gl:aR)(fr:aP)(h:ak):Op→Prop
 | .move x=>(ev gl fr x).gd=true
 | .assign x=>(ev gl fr x).gd=true
 | .pick c a b=>(ev gl fr c).gd=true∧N8 (ev gl fr c) (ev gl fr a) (ev gl fr b)
 | .build t parts=>(∀p∈parts.toList,(ev gl fr p.2).gd=true)∧Jg P t (parts.toList.map fun p=>(p.1,(ev gl fr p.2).core))
 | .load t a=>(ev gl fr a).gd=true∧(ax P t).ok=true∧loadOk P h t (ev gl fr a).core
 | .nilCheck x=>(ev gl fr x).gd=true∧SY (ev gl fr x).core
 | .binOp op t x y _=>(ev gl fr x).gd=true∧(ev gl fr y).gd=true∧I5 P op t (ev gl fr x).core (ev gl fr y).core
 | .unOp op _ x=>(ev gl fr x).gd=true∧OZ op (ev gl fr x).core
 | .convert src dst x=>(ev gl fr x).gd=true∧I7 P src dst (ev gl fr x).core
 | .makeInterface t x=>(ev gl fr x).gd=true∧(ax P t).ok=true∧Js (ax P t).kind
 | .makeFunc _ first caps=>(∀x∈first.toList,(ev gl fr x).gd=true)∧(∀x∈caps.toList,(ev gl fr x).gd=true)
 | .slice t x lo hi mx=>(ev gl fr x).gd=true∧mx=none∧xy (lo.map (ev gl fr))∧xy (hi.map (ev gl fr))∧
  aU P h (ax P t).kind (ev gl fr x).core (lo.map fun x=>jv (ev gl fr x).core) (hi.map fun x=>jv (ev gl fr x).core)
 | .fieldAddr s x f=>(ev gl fr x).gd=true∧f<(fieldsOf (ax P s)).length∧0<Sj (ax P s) f∧(ax P (fty (ax P s) f)).ok=true∧faddrOk (ev gl fr x).core
 | .field s x f=>(ev gl fr x).gd=true∧f<(fieldsOf (ax P s)).length∧(ax P (fty (ax P s) f)).ok=true∧Ck P s f (ev gl fr x).core
 | .indexAddr t x ix=>(ev gl fr x).gd=true∧(ev gl fr ix).gd=true∧isInt (ev gl fr ix).core∧0≤jv (ev gl fr ix).core∧iaddrOk P h (ax P t).kind (ev gl fr x).core (jv (ev gl fr ix).core)
 | .index t x ix=>(ev gl fr x).gd=true∧(ev gl fr ix).gd=true∧isInt (ev gl fr ix).core∧0≤jv (ev gl fr ix).core∧Cm P (ax P t).kind (ev gl fr x).core (jv (ev gl fr ix).core)
 | .lookup t x ix _=>(ev gl fr x).gd=true∧(ev gl fr ix).gd=true∧JD P h (ax P t).kind (ev gl fr x).core (ev gl fr ix).core
 | .extract x i=>(ev gl fr x).gd=true∧vM i (ev gl fr x).core
 | _=>False
end Go.Abs
end
end
section
section
section
namespace Go.Abs
open Go
section
variable {P : Program} {gl : aR} {J : List eF} {h : ak} {w : World} {O : Nat → Prop} {fr : aP}
theorem Kg (s:List UInt8):(⟨s.toArray⟩:ByteArray).toList=s:=ByteArray.toList_mk s
theorem OH (a b:List UInt8):(⟨a.toArray⟩:ByteArray)++⟨b.toArray⟩=⟨(a++b).toArray⟩:=by
 apply ByteArray.ext;simp
theorem Nw (op:BinOp)(t:TypeId)(X Y:Operand)(k k':IntKind)(a b:Int)(hok:Jr op k k' b):
  ∃r,(do eqGuard op t X Y (.int k a) (.int k' b);binOp op t (.int k a) (.int k' b)).run P w= .ok r w∧aQ J O w (WZ op k a b) r:=by
 simp only [eqGuard_at_int,Sem.run_bind,Sem.run_pure,Result.andThen_ok];cases op <;> simp only [Jr] at hok
 case shl=>
  refine⟨_,?_,.int _ _⟩;simp only [binOp_shl,Op.shift];rw [if_neg (by omega)];rfl
 case shr=>
  refine⟨_,?_,.int _ _⟩;simp only [binOp_shr,Op.shift];rw [if_neg (by omega)];rfl
 case quo=>
  obtain⟨rfl,hb⟩:=hok;refine⟨_,?_,.int _ _⟩;simp only [binOp_quo,Op.intDiv];rw [if_neg hb];rfl
 case rem=>
  obtain⟨rfl,hb⟩:=hok;refine⟨_,?_,.int _ _⟩;simp only [binOp_rem,Op.intDiv];rw [if_neg hb];rfl
 all_goals
  subst hok;first
   | exact⟨_,by simp only [binOp_add,binOp_sub,binOp_mul,binOp_and,binOp_or,binOp_xor,binOp_andNot,binOp_eql,binOp_neq,binOp_lss,binOp_leq,binOp_gtr,binOp_geq];rfl,.int _ _⟩
   | exact⟨_,by simp only [binOp_add,binOp_sub,binOp_mul,binOp_and,binOp_or,binOp_xor,binOp_andNot,binOp_eql,binOp_neq,binOp_lss,binOp_leq,binOp_gtr,binOp_geq];rfl,.bool _⟩
theorem Oo (op:BinOp)(t:TypeId)(X Y:Operand)(a b:List UInt8)(hok:J4 op a b):
  ∃r,(do eqGuard op t X Y (.string ⟨a.toArray⟩) (.string ⟨b.toArray⟩);binOp op t (.string ⟨a.toArray⟩) (.string ⟨b.toArray⟩)).run P w= .ok r w∧aQ J O w (Xr op a b) r:=by
 simp only [eqGuard_at_string,Sem.run_bind,Sem.run_pure,Result.andThen_ok];cases op <;> simp only [J4] at hok
 case add=>
  refine⟨_,?_,.str _⟩;have: ¬(((⟨a.toArray⟩:ByteArray).size+(⟨b.toArray⟩:ByteArray).size:Nat):Int)>IntKind.i64.max:=by
   simp [ByteArray.size];omega
  simp only [binOp_string_add,Op.stringOp,if_neg this,OH,Sem.run_pure]
 all_goals
  refine⟨_,?_,.bool _⟩;simp [binOp,Op.stringOp,Kg]
theorem DC {d:Nat} {t:TypeId} {bs:List BK} (hf:flat P (d+1) t=some bs)(hn: ∀fs,P.underlying t≠some (.struct fs))(hn': ∀n e,P.underlying t≠some (.array n e)):
  (∃k,P.underlying t=some (.int k)∧bs=[.int])∨(P.underlying t=some .string∧bs=[.str])∨(P.underlying t=some .bool∧bs=[.bool]):=by
 unfold flat at hf;split at hf
 ·rename_i k i h1 h2;split at hf <;> simp at hf
  exact .inl ⟨k,h1,hf.symm⟩
 ·rename_i i h1 h2;split at hf <;> simp at hf
  exact .inr (.inl ⟨h1,hf.symm⟩)
 ·rename_i i h1 h2;split at hf <;> simp at hf
  exact .inr (.inr ⟨h1,hf.symm⟩)
 ·rename_i fs i h1 h2;exact absurd h1 (hn fs)
 ·rename_i n e i h1 h2;exact absurd h1 (hn' n e)
 ·simp at hf
theorem gN: ∀(bs:List BK) (xs ys:List AV),nL bs xs ys→xs.length=bs.length∧ys.length=bs.length
 | [],[],[],_=>⟨rfl,rfl⟩
 | _::bs,_::xs,_::ys,h=>by
  simp only [nL] at h;have:=gN bs xs ys h.2;simp [this]
 | [],[],_::_,h=>by simp [nL] at h
 | [],_::_,_,h=>by simp [nL] at h
 | _::_,[],_,h=>by simp [nL] at h
 | _::_,_::_,[],h=>by simp [nL] at h
theorem Df {b1 b2:List BK}: ∀ {xs ys:List AV},nL (b1++b2) xs ys→nL b1 (xs.take b1.length) (ys.take b1.length)∧nL b2 (xs.drop b1.length) (ys.drop b1.length):=by
 induction b1 with
 | nil=>intro xs ys h;simpa [nL] using h
 | cons b b1 ih=>
  intro xs ys h
  cases xs with
  | nil=>simp [nL] at h
  | cons x xs=>
   cases ys with
   | nil=>simp [nL] at h
   | cons y ys=>
    simp only [List.cons_append,nL] at h;have:=ih h.2;simp [nL,h.1,this.1,this.2]
theorem xc: ∀(n:Nat) (xs ys:List AV),n≤xs.length→n≤ys.length→ku xs ys=(ku (xs.take n) (ys.take n) && ku (xs.drop n) (ys.drop n))
 | 0,xs,ys,_,_=>by simp [ku]
 | n+1,[],_,h,_=>by simp at h
 | n+1,_::_,[],_,h=>by simp at h
 | n+1,x::xs,y::ys,h1,h2=>by
  simp only [List.length_cons] at h1 h2;simp only [ku,List.take_succ_cons,List.drop_succ_cons];rw [xc n xs ys (by omega) (by omega),Bool.and_assoc]
def jP (J:List eF)(O:Nat→Prop)(w:World)(xs:List AV)(us:List Value)(off:Nat):Prop:=
 ∀i x,xs[i]? =some x→ ∃u,us[off+i]? =some u∧aQ J O w x u
theorem l7 {xs:List AV} {us:List Value} {off n:Nat} (hs:jP J O w xs us off):jP J O w (xs.take n) us off:=by
 intro i x hx;rw [List.getElem?_take] at hx;split at hx
 ·exact hs i x hx
 ·simp at hx
theorem lZ {xs:List AV} {us:List Value} {off n:Nat} (hs:jP J O w xs us off):jP J O w (xs.drop n) us (off+n):=by
 intro i x hx;rw [List.getElem?_drop] at hx;obtain⟨u,h1,h2⟩:=hs _ x hx;exact⟨u,by rw [Nat.add_assoc];exact h1,h2⟩
theorem iK {t:TypeId} {d:TypeDesc} (hd:P.underlying t=some d)(w:World):(isAgg t).run P w= .ok (tH d) w:=by
 simp only [isAgg,Sem.run_bind,run_underlying hd,Result.andThen_ok];cases d <;> rfl
def Dp (d:Nat)(e:TypeId)(n:Nat)(xs ys:Array Value):List Nat→Sem Bool
 | []=>pure true
 | i::l=>do
  let a ←part e xs (i*n)
  let b ←part e ys (i*n)
  let r ←Op.equalIn d e a b
  if (!r)=true then pure false else Dp d e n xs ys l
theorem run_equalIn_array (w:World)(d:Nat)(t e:TypeId)(len n:Nat)(xs ys:Array Value)(ht:P.underlying t=some (.array len e))(hn:(sizeOf e).run P w= .ok n w):
  (Op.equalIn (d+1) t (.agg xs) (.agg ys)).run P w=(Dp d e n xs ys (List.range len)).run P w:=by
 simp only [Op.equalIn,Sem.run_bind,run_underlying ht,Result.andThen_ok,hn];simp only [Std.Legacy.Range.forIn_eq_forIn_range',Std.Legacy.Range.size,Nat.sub_zero,Nat.add_sub_cancel,Nat.div_one,←List.range_eq_range'];generalize List.range len=fs;clear ht hn
 induction fs generalizing w with
 | nil=>simp [Dp]
 | cons f fs ih=>
  simp only [List.forIn_cons,Dp,Sem.run_bind];generalize (part e xs (f*n)).run P w=r1
  cases r1 with
  | ok a w1=>
   simp only [Result.andThen_ok];generalize (part e ys (f*n)).run P w1=r2
   cases r2 with
   | ok b w2=>
    simp only [Result.andThen_ok];generalize (Op.equalIn d e a b).run P w2=r3
    cases r3 with
    | ok r w3=>
     cases r
     ·simp only [Result.andThen_ok,Bool.not_false,if_true,Sem.run_pure]
     ·simp only [Result.andThen_ok,Bool.not_true,Bool.false_eq_true,if_false,Sem.run_pure];exact ih w3
    | halt x w3=>simp [Result.andThen]
   | halt x w2=>simp [Result.andThen]
  | halt x w1=>simp [Result.andThen]
theorem rT: ∀(d:Nat) (t:TypeId) (bs:List BK),flat P d t=some bs→ ∀(xs ys:List AV) (us vs:List Value) (off:Nat) (m:Nat),d≤m→nL bs xs ys→jP J O w xs us off→jP J O w ys vs off→
  (part t us.toArray off>>=fun a=>part t vs.toArray off>>=fun b=>Op.equalIn m t a b).run P w= .ok (ku xs ys) w
 | 0,_,_,hf=>by simp [flat] at hf
 | d+1,t,bs,hf=>by
  intro xs ys us vs off m hm hc hxs hys;obtain⟨m,rfl⟩: ∃m',m=m'+1:=⟨m - 1,by omega⟩;by_cases hst: ∃fs,P.underlying t=some (.struct fs)
  ·obtain⟨fs,hu⟩:=hst;have hf':=hf;unfold flat at hf'
   cases hi:P.info? t with
   | none=>simp [hu,hi] at hf'
   | some i=>
   simp only [hu,hi] at hf';split at hf'
   ·simp at hf'
   rename_i hsi;split at hf'
   ·rename_i r hr;split at hf'
    ·rename_i hlen;injection hf' with hf';subst hf';have hl:=gN _ _ _ hc;have hp1:(part t us.toArray off).run P w= .ok (.agg (us.toArray.extract off (off+r.length))) w:=by
      simp only [part,Sem.run_bind,iK hu,Result.andThen_ok,tH,if_true,sizeOf,typeInfo,run_program,hi,Sem.run_pure,hlen]
     have hp2:(part t vs.toArray off).run P w= .ok (.agg (vs.toArray.extract off (off+r.length))) w:=by
      simp only [part,Sem.run_bind,iK hu,Result.andThen_ok,tH,if_true,sizeOf,typeInfo,run_program,hi,Sem.run_pure,hlen]
     rw [Sem.run_bind,hp1,Result.andThen_ok,Sem.run_bind,hp2,Result.andThen_ok];have hfs:P.fieldsOf t=fs:=by simp [Program.fieldsOf,hu]
     rw [run_equalIn_struct w m t _ _ (by rw [hfs];exact hu) (by simpa using hsi),hfs];have e1:us.toArray.extract off (off+r.length)=((us.drop off).take r.length).toArray:=by
      simp [List.extract_toArray,List.extract_eq_take_drop]
     have e2:vs.toArray.extract off (off+r.length)=((vs.drop off).take r.length).toArray:=by
      simp [List.extract_toArray,List.extract_eq_take_drop]
     rw [e1,e2];have s1:jP J O w xs ((us.drop off).take r.length) 0:=by
      intro i x hx;obtain⟨u,h1,h2⟩:=hxs i x hx;have hi':i<r.length:=by
       rw [←hl.1];exact (zA.1 hx).1
      exact⟨u,by rw [Nat.zero_add,List.getElem?_take_of_lt hi',List.getElem?_drop];exact h1,h2⟩
     have s2:jP J O w ys ((vs.drop off).take r.length) 0:=by
      intro i x hx;obtain⟨u,h1,h2⟩:=hys i x hx;have hi':i<r.length:=by
       rw [←hl.2];exact (zA.1 hx).1
      exact⟨u,by rw [Nat.zero_add,List.getElem?_take_of_lt hi',List.getElem?_drop];exact h1,h2⟩
     generalize (us.drop off).take r.length=us' at s1 ⊢;generalize (vs.drop off).take r.length=vs' at s2 ⊢;clear e1 e2 hp1 hp2 hfs hl hxs hys hlen hsi hf hu;have key: ∀(l:List Field) (o:Nat) (r:List BK),kz (flat P d) o l=some r→ ∀(xs ys:List AV),nL r xs ys→jP J O w xs us' o→jP J O w ys vs' o→
       (Op.eqFields m us'.toArray vs'.toArray l).run P w= .ok (ku xs ys) w:=by
      intro l
      induction l with
      | nil=>
       intro o r hr xs ys hc _ _;simp [kz] at hr;subst hr;have:=gN _ _ _ hc;have hx:xs=[]:=by simpa using this.1
       have hy:ys=[]:=by simpa using this.2
       subst hx;subst hy
       simp [Op.eqFields,ku]
      | cons f l ih=>
       intro o r hr xs ys hc hx hy;unfold kz at hr;split at hr
       ·rename_i hname;split at hr
        ·rename_i b hb;split at hr
         ·rename_i r' hr';injection hr with hr;subst hr;have hl:=gN _ _ _ hc;simp only [List.length_append] at hl;obtain⟨c1,c2⟩:=Df hc;have h1:=rT d f.type b hb (xs.take b.length) (ys.take b.length) us' vs' f.offset m (by omega) c1 (by rw [hname.2];exact l7 hx) (by rw [hname.2];exact l7 hy);have h2:=ih (o+b.length) r' hr' (xs.drop b.length) (ys.drop b.length) c2 (lZ hx) (lZ hy);rw [xc b.length xs ys (by omega) (by omega)];simp only [Op.eqFields,if_pos hname.1];simp only [Sem.run_bind] at h1 ⊢;generalize (part f.type us'.toArray f.offset).run P w=r1 at h1 ⊢
          cases r1 with
          | halt=>simp [Result.andThen] at h1
          | ok a w1=>
           simp only [Result.andThen_ok] at h1 ⊢;generalize (part f.type vs'.toArray f.offset).run P w1=r2 at h1 ⊢
           cases r2 with
           | halt=>simp [Result.andThen] at h1
           | ok b' w2=>
            simp only [Result.andThen_ok] at h1 ⊢;rw [h1];simp only [Result.andThen_ok]
            cases ku (xs.take b.length) (ys.take b.length) with
            | false=>simp
            | true=>simpa using h2
         ·simp at hr
        ·simp at hr
       ·simp at hr
     exact key fs.toList 0 r hr xs ys hc s1 s2
    ·simp at hf'
   ·simp at hf'
  ·by_cases har: ∃n e,P.underlying t=some (.array n e)
   ·obtain⟨len,e,hu⟩:=har;have hf':=hf;unfold flat at hf'
    cases hi:P.info? t with
    | none=>simp [hu,hi] at hf'
    | some i=>
    simp only [hu,hi] at hf';split at hf'
    ·rename_i r hr;split at hf'
     ·rename_i hlen;injection hf' with hf';have hsz:(sizeOf e).run P w= .ok r.length w:=by
       have h0:=hlen.2
       cases d with
       | zero=>simp [flat] at hr
       | succ d=>
        cases hie:P.info? e with
        | none=>
         unfold flat at hr;rw [hie] at hr;cases hue:P.underlying e <;> simp [hue] at hr
        | some ie=>simp [Program.cellsOf,hie] at h0;simp [sizeOf,typeInfo,hie,h0]
      have hbl:bs.length=i.size:=by
       rw [←hf',←hlen.1,List.length_flatMap,List.map_const',List.length_range,List.sum_replicate_nat]
      have hl:=gN _ _ _ hc;have hp: ∀us:List Value,(part t us.toArray off).run P w= .ok (.agg (us.toArray.extract off (off+bs.length))) w:=by
       intro us;simp only [part,Sem.run_bind,iK hu,Result.andThen_ok,tH,if_true,sizeOf,typeInfo,run_program,hi,Sem.run_pure,hbl]
      rw [Sem.run_bind,hp,Result.andThen_ok,Sem.run_bind,hp,Result.andThen_ok,run_equalIn_array w m t e len r.length _ _ hu hsz];have e1: ∀us:List Value,us.toArray.extract off (off+bs.length)=((us.drop off).take bs.length).toArray:=by
       intro us;simp [List.extract_toArray,List.extract_eq_take_drop]
      rw [e1,e1];have s0: ∀(xs:List AV) (us:List Value),xs.length=bs.length→jP J O w xs us off→jP J O w xs ((us.drop off).take bs.length) 0:=by
       intro xs us hl hxs i x hx;obtain⟨u,h1,h2⟩:=hxs i x hx;have hi':i<bs.length:=by
        rw [←hl];exact (zA.1 hx).1
       exact⟨u,by rw [Nat.zero_add,List.getElem?_take_of_lt hi',List.getElem?_drop];exact h1,h2⟩
      have s1:=s0 xs us hl.1 hxs;have s2:=s0 ys vs hl.2 hys;generalize (us.drop off).take bs.length=us' at s1 ⊢;generalize (vs.drop off).take bs.length=vs' at s2 ⊢;have key: ∀(k s:Nat) (xs ys:List AV),nL ((List.range' s k).flatMap fun _=>r) xs ys→jP J O w xs us' (s*r.length)→jP J O w ys vs' (s*r.length)→
        (Dp m e r.length us'.toArray vs'.toArray (List.range' s k)).run P w= .ok (ku xs ys) w:=by
       intro k
       induction k with
       | zero=>
        intro s xs ys hc _ _;have:=gN _ _ _ hc;simp at this;obtain⟨hx,hy⟩:=this;subst hx;subst hy
        simp [Dp,ku]
       | succ k ih=>
        intro s xs ys hc hx hy;rw [List.range'_succ,List.flatMap_cons] at hc;rw [List.range'_succ];have hl:=gN _ _ _ hc;simp only [List.length_append] at hl;obtain⟨c1,c2⟩:=Df hc;have h1:=rT d e r hr (xs.take r.length) (ys.take r.length) us' vs' (s*r.length) m (by omega) c1 (l7 hx) (l7 hy);have h2:=ih (s+1) (xs.drop r.length) (ys.drop r.length) c2 (by rw [Nat.add_mul,Nat.one_mul];exact lZ hx) (by rw [Nat.add_mul,Nat.one_mul];exact lZ hy);rw [xc r.length xs ys (by omega) (by omega)];simp only [Dp];simp only [Sem.run_bind] at h1 ⊢;generalize (part e us'.toArray (s*r.length)).run P w=r1 at h1 ⊢
        cases r1 with
        | halt=>simp [Result.andThen] at h1
        | ok a w1=>
         simp only [Result.andThen_ok] at h1 ⊢;generalize (part e vs'.toArray (s*r.length)).run P w1=r2 at h1 ⊢
         cases r2 with
         | halt=>simp [Result.andThen] at h1
         | ok b' w2=>
          simp only [Result.andThen_ok] at h1 ⊢;rw [h1];simp only [Result.andThen_ok]
          cases ku (xs.take r.length) (ys.take r.length) with
          | false=>simp
          | true=>simpa using h2
      rw [List.range_eq_range'];exact key len 0 xs ys (by rw [←List.range_eq_range',hf'];exact hc) (by simpa using s1) (by simpa using s2)
     ·simp at hf'
    ·simp at hf'
   ·have hb:=DC hf (fun fs h=>hst ⟨fs,h⟩) (fun n e h=>har ⟨n,e,h⟩);have cell: ∀(xs:List AV) (us:List Value) (x:AV),xs=[x]→jP J O w xs us off→ ∀d,P.underlying t=some d→tH d=false→ ∃u,(part t us.toArray off).run P w= .ok u w∧aQ J O w x u:=by
     intro xs us x hx hs d hd hag;subst hx;obtain⟨u,h1,h2⟩:=hs 0 x (by simp);refine⟨u,?_,h2⟩;simp only [part,Sem.run_bind,iK hd,Result.andThen_ok,hag,Bool.false_eq_true,if_false];have:us.toArray[off]? =some u:=by simpa using h1
     rw [this];rfl
    rcases hb with⟨k,hu,rfl⟩ | ⟨hu,rfl⟩ | ⟨hu,rfl⟩
    all_goals
     have hl:=gN _ _ _ hc;obtain⟨x,hx1⟩:=List.length_eq_one_iff.1 hl.1;obtain⟨y,hy1⟩:=List.length_eq_one_iff.1 hl.2;subst hx1;subst hy1
     focus
      simp only [nL,and_true] at hc;obtain⟨u,hp1,hr1⟩:=cell _ us x rfl hxs _ hu rfl;obtain⟨v,hp2,hr2⟩:=cell _ vs y rfl hys _ hu rfl;rw [Sem.run_bind,hp1,Result.andThen_ok,Sem.run_bind,hp2,Result.andThen_ok];unfold De at hc;split at hc <;> first | (simp at hc;done) | (rename_i heq;cases heq;done) | skip
      cases hr1;cases hr2
      first
       | (subst hc;rw [run_equalIn_int w m t _ _ _ _ hu];simp [ku,nJ])
       | (rw [run_equalIn_string w m t _ _ hu];simp [ku,nJ,Kg])
       | (rw [run_equalIn_bool w m t _ _ hu];simp [ku,nJ])
end
end Go.Abs
end
section
namespace Go.Abs
open Go
section
variable {P : Program} {gl : aR} {J : List eF} {h : ak} {w : World} {O : Nat → Prop} {fr : aP}
theorem ik {xs:List AV} {us:List Value} (hl:xs.length=us.length)(hs: ∀(i:Nat) (x:AV) (v:Value),xs[i]? =some x→us[i]? =some v→aQ J O w x v):jP J O w xs us 0:=by
 intro i x hx;have hi:i<us.length:=by rw [←hl];exact (zA.1 hx).1
 exact⟨us[i],by rw [Nat.zero_add];exact zB hi,hs i x _ hx (zB hi)⟩
theorem rU {d:Nat} {t:TypeId} {bs:List BK} (hf:flat P d t=some bs):(ax P t).ok=true:=by
 cases d with
 | zero=>simp [flat] at hf
 | succ d=>
  unfold flat at hf;unfold ax
  cases hu:P.underlying t with
  | none=>simp [hu] at hf
  | some td=>
   cases hi:P.info? t with
   | none=>cases td <;> simp [hu,hi] at hf
   | some i=>simp
theorem DD {d:Nat} {t:TypeId} {bs:List BK} (hf:flat P d t=some bs):(ax P t).cells=bs.length:=by
 obtain⟨td,i,hu,hi,e⟩:=dX (rU hf);rw [e];simp only
 cases d with
 | zero=>simp [flat] at hf
 | succ d=>
  unfold flat at hf;rw [hu,hi] at hf;cases td <;> simp only at hf <;> first | (simp at hf;done) | skip
  all_goals
   repeat (split at hf <;> first | (simp at hf;done) | skip)
   all_goals first
    | (simp at hf;subst hf;simp;omega)
    | (rename_i h1;injection hf with hf;subst hf;rw [List.length_flatMap,List.map_const',List.length_range,List.sum_replicate_nat];omega)
    | (injection hf with hf;subst hf;simp_all)
theorem gm {x:AV} {u:Value} (hx:aQ J O w x u)(hna: ∀cs,x≠ .agg cs):ah x=[x]:=by
 cases x <;> first | rfl | exact absurd rfl (hna _)
theorem Dq {t:TypeId} {bs:List BK} (hf:flat P 50 t=some bs) {x y:AV} {u v:Value} (hx:aQ J O w x u)(hy:aQ J O w y v)(hax:dY (ax P t) x)(hay:dY (ax P t) y)
  (hc:nL bs (ah x) (ah y)) (m:Nat) (hm:50≤m):(Op.equalIn m t u v).run P w= .ok (ku (ah x) (ah y)) w:=by
 have hl:=gN _ _ _ hc;have hok:=rU hf;have hcells:=DD hf;unfold dY at hax hay
 cases hag:(ax P t).agg with
 | true=>
  rw [hag] at hax hay;cases x <;> simp only at hax
  cases y <;> simp only at hay
  rename_i xs ys;simp only [ah] at hl hc ⊢
  cases hx with
  | agg _ us hl1 ho1 h1=>
   cases hy with
   | agg _ vs hl2 ho2 h2=>
    have h0:=rT (P:=P) 50 t bs hf xs ys us vs 0 m hm hc (ik hl1 h1) (ik hl2 h2);have p1: ∀us:List Value,us.length=bs.length→(part t us.toArray 0).run P w= .ok (.agg us.toArray) w:=by
     intro us hus;simp only [part,Sem.run_bind,lY hok,hag,Result.andThen_ok,if_true,cK hok,hcells,Sem.run_pure];congr 2
     simp [←hus]
    rw [Sem.run_bind,p1 us (by omega),Result.andThen_ok,Sem.run_bind,p1 vs (by omega),Result.andThen_ok] at h0;exact h0
 | false=>
  rw [hag] at hax hay;have hnx: ∀cs,x≠ .agg cs:=by rintro cs rfl;simp at hax
  have hny: ∀cs,y≠ .agg cs:=by rintro cs rfl;simp at hay
  rw [gm hx hnx,gm hy hny] at hc ⊢;have h0:=rT (P:=P) 50 t bs hf [x] [y] [u] [v] 0 m hm hc (ik rfl (bX.cons hx .nil).2) (ik rfl (bX.cons hy .nil).2);have p1: ∀u:Value,(part t [u].toArray 0).run P w= .ok u w:=by
   intro u;simp [part,lY hok,hag]
  rw [Sem.run_bind,p1 u,Result.andThen_ok,Sem.run_bind,p1 v,Result.andThen_ok] at h0;exact h0
theorem ig (w:World)(t:TypeId)(x y:Option Addr×Nat×Nat)(b:Bool)(he: ∀d,(Op.equalIn (d+1) t (.slice x.1 x.2.1 x.2.2) (.slice y.1 y.2.1 y.2.2)).run P w= .ok b w):
  (binOp .eql t (.slice x.1 x.2.1 x.2.2) (.slice y.1 y.2.1 y.2.2)).run P w= .ok (.bool b) w∧(binOp .neq t (.slice x.1 x.2.1 x.2.2) (.slice y.1 y.2.1 y.2.2)).run P w= .ok (.bool (!b)) w:=by
 have h0:(Op.equal t (.slice x.1 x.2.1 x.2.2) (.slice y.1 y.2.1 y.2.2)).run P w= .ok b w:=he 9999;constructor
 ·simp only [binOp,Sem.run_bind,h0,Result.andThen_ok,Sem.run_pure]
 ·simp only [binOp,Sem.run_bind,h0,Result.andThen_ok,Sem.run_pure]
theorem MX {op:BinOp} {t:TypeId} {X Y:Operand} {x y:AV} {u v:Value} (hx:aQ J O w x u)(hy:aQ J O w y v)(hok:I5 P op t x y):
  ∃r,(do eqGuard op t X Y u v;binOp op t u v).run P w= .ok r w∧aQ J O w (Wi op x y) r:=by
 unfold I5 at hok;split at hok
 ·cases hx;cases hy;exact Nw op t X Y _ _ _ _ hok
 ·cases hx;cases hy;exact Oo op t X Y _ _ hok
 ·cases hx;cases hy
  obtain⟨ho,hk⟩:=hok;obtain⟨d,hu,hd,hok',_⟩:=iM hk (by simp);have hu':P.underlying t=some .bool:=by cases d <;> simp [sW] at hd;exact hu
  simp only [eqGuard_at_bool,Sem.run_bind,Sem.run_pure,Result.andThen_ok];rcases ho with rfl | rfl
  ·exact⟨_,run_eql_bool w t _ _ hu',.bool _⟩
  ·exact⟨_,run_neq_bool w t _ _ hu',.bool _⟩
 ·rename_i xs ys
  cases hx with
  | agg _ us hl1 ho1 h1=>
   cases hy with
   | agg _ vs hl2 ho2 h2=>
    obtain⟨ho,hg,hag,bs,hf,hc⟩:=hok;have he:=Dq (P:=P) hf (.agg xs us hl1 ho1 h1) (.agg ys vs hl2 ho2 h2) (by simp [dY,hag]) (by simp [dY,hag]) hc 10000 (by omega);simp only [ah] at he;rcases ho with rfl | rfl
    ·refine⟨_,?_,.bool _⟩;rw [Sem.run_bind,run_eqGuard_agg w _ _ _ _ _ _ hg,Result.andThen_ok,run_eql_struct,he];rfl
    ·refine⟨_,?_,.bool _⟩;rw [Sem.run_bind,run_eqGuard_agg w _ _ _ _ _ _ hg,Result.andThen_ok,run_neq_struct,he];rfl
 ·cases hx;cases hy
  obtain⟨ho,e,he⟩:=hok;have hu:=(dF he).1;simp only [eqGuard_at_slice,Sem.run_bind,Sem.run_pure,Result.andThen_ok];rcases ho with rfl | rfl
  ·exact⟨_,(ig w t (none,0,0) (none,0,0) true (fun d=>by simp only [Op.equalIn,Sem.run_bind,run_underlying hu,Result.andThen_ok];rfl)).1,.bool _⟩
  ·exact⟨_,(ig w t (none,0,0) (none,0,0) true (fun d=>by simp only [Op.equalIn,Sem.run_bind,run_underlying hu,Result.andThen_ok];rfl)).2,.bool _⟩
 ·cases hx;cases hy
  obtain⟨ho,e,he⟩:=hok;have hu:=(dF he).1;simp only [eqGuard_at_slice,Sem.run_bind,Sem.run_pure,Result.andThen_ok];rcases ho with rfl | rfl
  ·exact⟨_,(ig w t (some _,_,_) (none,0,0) false (fun d=>by simp only [Op.equalIn,Sem.run_bind,run_underlying hu,Result.andThen_ok];rfl)).1,.bool _⟩
  ·exact⟨_,(ig w t (some _,_,_) (none,0,0) false (fun d=>by simp only [Op.equalIn,Sem.run_bind,run_underlying hu,Result.andThen_ok];rfl)).2,.bool _⟩
 ·exact hok.elim
theorem P8 {op:UnOp} {x:AV} {u:Value} (hx:aQ J O w x u)(hok:OZ op x): ∃r,(Op.unary op u).run P w= .ok r w∧aQ J O w (ZH op x) r:=by
 unfold OZ at hok;split at hok
 ·cases hx;exact⟨_,by simp [Op.unary,Op.intArith],.int _ _⟩
 ·cases hx;exact⟨_,by simp [Op.unary],.bool _⟩
 ·exact hok.elim
theorem Ku {src dst:TypeId} {x:AV} {u:Value} (hx:aQ J O w x u)(hok:I7 P src dst x): ∃r,(convert src dst u).run P w= .ok r w∧aQ J O w (Kt P dst x) r:=by
 obtain⟨hs,hok⟩:=hok;obtain⟨ds,is,hds,_,_⟩:=dX hs;split at hok
 ·rename_i k k' n hk;obtain⟨d,hu,hd,_,_⟩:=iM hk (by simp);have hu':P.underlying dst=some (.int k):=by cases d <;> simp [sW] at hd;subst hd;exact hu
  cases hx
  refine⟨_,?_,by simp only [Kt,hk];exact .int _ _⟩;simp only [convert,Sem.run_bind,run_underlying hds,run_underlying hu',Result.andThen_ok];cases ds <;> rfl
 ·rename_i s hk;obtain⟨d,hu,hd,_,_⟩:=iM hk (by simp);have hu':P.underlying dst=some .string:=by cases d <;> simp [sW] at hd;exact hu
  cases hx
  refine⟨_,?_,by simp only [Kt,hk];exact .str _⟩;simp only [convert,Sem.run_bind,run_underlying hds,run_underlying hu',Result.andThen_ok];cases ds <;> rfl
 ·exact hok.elim
theorem xx {x:AV} {v:Value} (hx:aQ J O w x v)(hi:isInt x): ∃k,v= .int k (jv x):=by
 unfold isInt at hi;split at hi
 ·cases hx;exact⟨_,rfl⟩
 ·exact hi.elim
theorem lX {isSlice:Bool} {len cap:Nat} (hlc:len≤cap)(hs:isSlice=false→len=cap) {lo hi:Option Value} {l' h':Option Int} (hl: ∀v∈lo,∃k n,v= .int k n∧l'=some n)(hln:lo=none→l'=none)
  (hh: ∀v∈hi,∃k n,v= .int k n∧h'=some n) (hhn:hi=none→h'=none) (hok:eD len l' h'):
  (Instr.sliceBounds isSlice len cap lo hi none).run P w= .ok ((l'.map Int.toNat).getD 0,eY h' len,cap) w∧(l'.map Int.toNat).getD 0≤eY h' len∧eY h' len≤len:=by
 obtain⟨h1,h2⟩:=hok;have hb:eY h' len≤len:=by
  cases h' with
  | none=>simp [eY]
  | some n=>simp only [tQ] at h1;simp [eY];omega
 have ha:(l'.map Int.toNat).getD 0≤eY h' len:=by
  cases l' with
  | none=>simp
  | some n=>simp only [tQ] at h2;simp;omega
 refine⟨?_,ha,hb⟩
 cases hi with
 | none=>
  cases lo with
  | none=>
   rw [hln rfl,hhn rfl];simp [Instr.sliceBounds,eY]
  | some v=>
   obtain⟨k,n,rfl,rfl⟩:=hl v rfl;rw [hhn rfl] at h2 ⊢;simp only [tQ,eY,Option.map_none,Option.getD_none] at h2;simp [Instr.sliceBounds,eY,run_sliceBound w k n len _ h2.1 h2.2]
 | some u=>
  obtain⟨k,n,rfl,rfl⟩:=hh u rfl;simp only [tQ] at h1
  cases lo with
  | none=>
   rw [hln rfl];simp [Instr.sliceBounds,eY,run_sliceBound w k n cap _ h1.1 (by omega)]
  | some v=>
   obtain⟨k',n',rfl,rfl⟩:=hl v rfl;simp only [tQ,eY,Option.map_some,Option.getD_some] at h2;simp [Instr.sliceBounds,eY,run_sliceBound w k n cap _ h1.1 (by omega),run_sliceBound w k' n' n.toNat _ h2.1 h2.2]
end
end Go.Abs
end
section
namespace Go.Abs
open Go
section
variable {P : Program} {gl : aR} {J : List eF} {h : ak} {w : World} {O : Nat → Prop} {fr : aP}
def kN (P:Program)(J:List eF)(O:Nat→Prop)(w:World)(s:Sem Value)(x:AV):Prop:= ∃v,s.run P w= .ok v w∧aQ J O w x v
theorem Lr (hh:dm gl h J w) {t:TypeId} {x:AV} {u:Value} (hx:aQ J (Own h J) w x u)(ht:(ax P t).ok=true)
  (hok:loadOk P h t x):kN P J (Own h J) w (Instr.loadAt t u) (loadV P h t x):=by
 unfold loadOk at hok;unfold loadV;split at hok
 ·rename_i b i c;obtain⟨hi,hc⟩:=hok;have hg:(hcells h b)[i]? =some ((hcells h b).getD i []):=by simp [List.getD,zB hi]
  obtain⟨k,hk,rfl,hl,hr⟩:=Dr hh hx hg;obtain⟨v,hv,hvr⟩:=sj (P:=P) ht hr hc;exact⟨v,by simp only [Instr.loadAt,Instr.sureAddr,Sem.run_bind,Sem.run_pure,Result.andThen_ok,hv],hvr⟩
 ·rename_i es i c;obtain⟨hi,hc⟩:=hok;have hg:es[i]? =some (es.getD i []):=by simp [List.getD,zB hi]
  obtain⟨a,rfl,hr⟩:=KQ hx hg;obtain⟨v,hv,hvr⟩:=sj (P:=P) ht hr hc;exact⟨v,by simp only [Instr.loadAt,Instr.sureAddr,Sem.run_bind,Sem.run_pure,Result.andThen_ok,hv],hvr⟩
 ·exact hok.elim
theorem A9 {t:TypeId} {f:Nat} (hf:f<(fieldsOf (ax P t)).length): ∃fs fd,P.underlying t=some (.struct fs)∧fs[f]? =some fd∧oG (ax P t) f=fd.offset∧Sj (ax P t) f=P.cellsOf fd.type∧fty (ax P t) f=fd.type∧(ax P t).ok=true:=by
 unfold fieldsOf at hf;split at hf
 ·rename_i l hk;obtain⟨d,hu,hd,hok,_⟩:=iM hk (by simp)
  cases d with
  | struct fs=>
   simp only [sW,TK.struct.injEq] at hd;subst hd;simp only [List.length_map,Array.length_toList] at hf;have hg:fs[f]? =some (fs[f]'hf):=Array.getElem?_eq_getElem hf;refine⟨fs,fs[f]'hf,hu,hg,?_⟩;simp [oG,Sj,fty,fieldsOf,hk,List.getD,hg,hok]
  | _=>simp [sW] at hd
 ·simp at hf
theorem zT {s:TypeId} {f:Nat} {x:AV} {u:Value} (hx:aQ J O w x u)(hf:f<(fieldsOf (ax P s)).length)(hsz:0<Sj (ax P s) f)(hty:(ax P (fty (ax P s) f)).ok=true)
  (hok:faddrOk x):kN P J O w (Instr.fieldAt s u f) (kw P s f x):=by
 unfold faddrOk at hok;unfold kw;obtain⟨fs,fd,hu,hg,h1,h2,h3,h4⟩:=A9 hf;have hrun: ∀a:Addr,(Instr.fieldAt s (.pointer (some a)) f).run P w= .ok (.pointer (some (a.add fd.offset))) w:=by
  intro a;have hc:(sizeOf fd.type).run P w= .ok (ax P fd.type).cells w:=cK (by rw [←h3];exact hty) w;have hne: ¬((ax P fd.type).cells=0):=by
   obtain⟨d,i,hd,hi,e⟩:=dX (by rw [←h3];exact hty:(ax P fd.type).ok=true);rw [e];simp only;rw [h2] at hsz;simp [Program.cellsOf,hi] at hsz;omega
  simp only [Instr.fieldAt,Sem.run_bind,run_underlying hu,Result.andThen_ok,hg,Instr.sureAddr,Sem.run_pure,fieldPlace,hc,Sem.run_ite,if_neg hne]
 split at hok
 ·rename_i b i c
  cases hx with
  | ptr _ _ _ k hb=>
   refine⟨_,hrun _,?_⟩;rw [h1,mM,show k.base+(i*k.n+c)+fd.offset=k.base+(i*k.n+(c+fd.offset)) by omega];exact .ptr _ _ _ k hb
 ·rename_i es i c
  cases hx with
  | rop _ _ _ a n g hn hO hl hc ho hh=>
   refine⟨_,hrun _,?_⟩;rw [h1,add_add',show i*n+c+fd.offset=i*n+(c+fd.offset) by omega];exact .rop _ _ _ a n g hn hO hl hc ho hh
 ·exact hok.elim
theorem Jp {s:TypeId} {f:Nat} {x:AV} {u:Value} (hx:aQ J O w x u)(hf:f<(fieldsOf (ax P s)).length)(hty:(ax P (fty (ax P s) f)).ok=true)
  (hok:Ck P s f x):kN P J O w (Instr.field s u f) (Jo P s f x):=by
 unfold Ck at hok;unfold Jo;obtain⟨fs,fd,hu,hg,h1,h2,h3,h4⟩:=A9 hf;split at hok
 ·rename_i cs;rw [h3] at hty hok ⊢;rw [h1] at hok ⊢;obtain⟨vs,rfl,r,hr,hrv⟩:=Eu (P:=P) hty hx hok;exact⟨r,by simp only [Instr.field,Sem.run_bind,run_underlying hu,Result.andThen_ok,hg,asAgg,Sem.run_pure,hr],hrv⟩
 ·exact hok.elim
theorem r9 {t:TypeId} {n:Nat} {e:TypeId} (h:(ax P t).kind= .array n e):P.underlying t=some (.array n e)∧(ax P t).ok=true:=by
 obtain⟨d,hu,hd,hok,_⟩:=iM h (by simp);cases d <;> simp [sW] at hd
 obtain⟨rfl,rfl⟩:=hd;exact⟨hu,hok⟩
theorem uO {t:TypeId} (h:(ax P t).kind= .string):P.underlying t=some .string∧(ax P t).ok=true:=by
 obtain⟨d,hu,hd,hok,_⟩:=iM h (by simp);cases d <;> simp [sW] at hd
 exact⟨hu,hok⟩
theorem oI {t k e:TypeId} (h:(ax P t).kind= .map k e):P.underlying t=some (.map k e)∧(ax P t).ok=true:=by
 obtain⟨d,hu,hd,hok,_⟩:=iM h (by simp);cases d <;> simp [sW] at hd
 obtain⟨rfl,rfl⟩:=hd;exact⟨hu,hok⟩
theorem K6 (hh:dm gl h J w) {b:Nat} {k:eF} (hb:J[b]? =some k)(hp:0<hsz h b): ∃es,h[b]? =some (.cells k.n es)∧hsz h b=k.n∧hcells h b=es:=by
 unfold hsz at hp;split at hp
 ·rename_i n es he;obtain⟨hkn,hn,hcap,hlen,_⟩:=hh.obj b k _ hb he;subst hkn;exact⟨es,he,by simp [hsz,he],by simp [hcells,he]⟩
 ·simp at hp
theorem zW (hh:dm gl h J w) {t:TypeId} {x y:AV} {u v:Value} (hx:aQ J (Own h J) w x u)(hy:aQ J (Own h J) w y v)(hi:isInt y)(h0:0≤jv y)
  (hok:iaddrOk P h (ax P t).kind x (jv y)):kN P J (Own h J) w (Instr.indexAt t u v) (dO P (ax P t).kind x (jv y)):=by
 unfold iaddrOk at hok;unfold dO;obtain⟨k,rfl⟩:=xx hy hi;generalize jv y=n at*;split at hok
 ·rename_i e b off len hk;obtain⟨he,h1,h2,h3⟩:=hok;obtain⟨hu,_⟩:=dF hk
  cases hx with
  | own _ _ _ kb a cap hb ha hlen hcap=>
   have hp:0<hsz h b:=by
    have h4:0<(hcells h b).length:=by omega
    unfold hcells at h4;unfold hsz;split at h4
    ·rename_i n' es he';obtain⟨hkn,hn,_⟩:=hh.obj b kb _ hb he';first | omega | (simp only [he'];omega)
    ·simp at h4
   obtain⟨es,_,hn,_⟩:=K6 hh hb hp;have hsz:=cK he w;rw [←h3,hn] at hsz;have ha':=ha (by omega);refine⟨_,?_,.ptr b (off+n.toNat) 0 kb hb⟩;simp only [Instr.indexAt,asIntOf,Sem.run_bind,Sem.run_pure,Result.andThen_ok,run_underlying hu];rw [Sem.run_ite,if_pos ⟨h0,h1⟩];simp only [Sem.run_bind,hsz,Result.andThen_ok,Sem.run_pure];rw [ha',mM,show kb.base+off*kb.n+n.toNat* kb.n=kb.base+((off+n.toNat)*kb.n+0) by rw [Nat.add_mul];omega]
 ·rename_i e es hk;obtain⟨he,h1,h2⟩:=hok;obtain⟨hu,_⟩:=dF hk
  cases hx with
  | roNil=>simp at h1;omega
  | ro _ a m cap f hcap hn hO hl hc ho hr=>
   have hlt:n.toNat<es.length:=by omega
   have hg:es[n.toNat]? =some (es.getD n.toNat []):=by simp [List.getD,zB hlt]
   have hm:=hl _ _ hg;have hsz:=cK he w;rw [←h2,hm] at hsz;refine⟨_,?_,.rop es n.toNat 0 a m f hn hO hl hc ho hr⟩;simp only [Instr.indexAt,asIntOf,Sem.run_bind,Sem.run_pure,Result.andThen_ok,run_underlying hu];rw [Sem.run_ite,if_pos ⟨h0,h1⟩];simp only [Sem.run_bind,hsz,Result.andThen_ok,Sem.run_pure,Nat.add_zero]
 ·rename_i m e b i c hk;obtain⟨he,h1⟩:=hok;obtain⟨hu,_⟩:=r9 hk
  cases hx with
  | ptr _ _ _ kb hb=>
   refine⟨_,?_,.ptr b i (c+n.toNat* (ax P e).cells) kb hb⟩;simp only [Instr.indexAt,asIntOf,Instr.sureAddr,Sem.run_bind,Sem.run_pure,Result.andThen_ok,run_underlying hu];rw [Sem.run_ite,if_pos ⟨h0,h1⟩];simp only [Sem.run_bind,cK he,Result.andThen_ok,Sem.run_pure];rw [mM,show kb.base+(i*kb.n+c)+n.toNat* (ax P e).cells=kb.base+(i*kb.n+(c+n.toNat* (ax P e).cells)) by omega]
 ·rename_i m e es i c hk;obtain⟨he,h1⟩:=hok;obtain⟨hu,_⟩:=r9 hk
  cases hx with
  | rop _ _ _ a q f hn hO hl hc ho hr=>
   refine⟨_,?_,.rop es i (c+n.toNat* (ax P e).cells) a q f hn hO hl hc ho hr⟩;simp only [Instr.indexAt,asIntOf,Instr.sureAddr,Sem.run_bind,Sem.run_pure,Result.andThen_ok,run_underlying hu];rw [Sem.run_ite,if_pos ⟨h0,h1⟩];simp only [Sem.run_bind,cK he,Result.andThen_ok,Sem.run_pure];rw [add_add',show i*q+c+n.toNat* (ax P e).cells=i*q+(c+n.toNat* (ax P e).cells) by omega]
 ·exact hok.elim
theorem Jv {t:TypeId} {x y:AV} {u v:Value} (hx:aQ J O w x u)(hy:aQ J O w y v)(hi:isInt y)(h0:0≤jv y)
  (hok:Cm P (ax P t).kind x (jv y)):kN P J O w (Instr.index t u v) (Ju P (ax P t).kind x (jv y)):=by
 unfold Cm at hok;unfold Ju;obtain⟨k,rfl⟩:=xx hy hi;generalize jv y=n at*;split at hok
 ·rename_i s hk;obtain⟨hu,_⟩:=uO hk;cases hx
  have hlt:n.toNat<s.length:=by omega
  refine⟨_,?_,.int _ _⟩;have e1:(⟨s.toArray⟩:ByteArray)[n.toNat]? =some (s[n.toNat]'hlt):=by
   rw [ByteArray.getElem?_lt' _ _ (by simpa [ByteArray.size] using hlt)];rfl
  simp only [Instr.index,asIntOf,Sem.run_bind,Sem.run_pure,Result.andThen_ok,run_underlying hu,if_pos h0,e1];simp [List.getD,hlt]
 ·rename_i m e cs hk;obtain⟨he,h1,h2⟩:=hok;obtain⟨hu,_⟩:=r9 hk;obtain⟨vs,rfl,r,hr,hrv⟩:=Eu (P:=P) he hx h2;refine⟨r,?_,hrv⟩;simp only [Instr.index,asIntOf,Sem.run_bind,Sem.run_pure,Result.andThen_ok,run_underlying hu];rw [Sem.run_ite,if_pos ⟨h0,h1⟩];simp only [Sem.run_bind,cK he,Result.andThen_ok,hr]
 ·exact hok.elim
end
end Go.Abs
end
end
section
section
namespace Go.Abs
open Go
section
variable {P : Program} {gl : aR} {J : List eF} {h : ak} {w : World} {O : Nat → Prop} {fr : aP}
theorem xO (em:Bool)(m:Nat)(t:TypeId)(v:Value) {d:TypeDesc} (hu:P.underlying t=some d)(hd:(∃k,d= .int k)∨d= .string∨d= .bool):
  (Instr.checkKey em (m+1) t v).run P w= .ok () w:=by
 rcases hd with⟨k,rfl⟩ | rfl | rfl <;>
 ·simp only [Instr.checkKey,Sem.run_bind,run_underlying hu,Result.andThen_ok];cases v <;> rfl
theorem rP (em:Bool): ∀(d:Nat) (t:TypeId) (bs:List BK),flat P d t=some bs→ ∀(xs:List AV) (us:List Value) (off:Nat) (m:Nat),d≤m→xs.length=bs.length→jP J O w xs us off→
  (part t us.toArray off>>=fun a=>Instr.checkKey em m t a).run P w= .ok () w
 | 0,_,_,hf=>by simp [flat] at hf
 | d+1,t,bs,hf=>by
  intro xs us off m hm hl hxs;obtain⟨m,rfl⟩: ∃m',m=m'+1:=⟨m - 1,by omega⟩;by_cases hst: ∃fs,P.underlying t=some (.struct fs)
  ·obtain⟨fs,hu⟩:=hst;have hf':=hf;unfold flat at hf'
   cases hi:P.info? t with
   | none=>simp [hu,hi] at hf'
   | some i=>
   simp only [hu,hi] at hf';split at hf'
   ·simp at hf'
   split at hf'
   ·rename_i r hr;split at hf'
    ·rename_i hlen;injection hf' with hf';subst hf';have hp1:(part t us.toArray off).run P w= .ok (.agg (us.toArray.extract off (off+r.length))) w:=by
      simp only [part,Sem.run_bind,iK hu,Result.andThen_ok,tH,if_true,sizeOf,typeInfo,run_program,hi,Sem.run_pure,hlen]
     rw [Sem.run_bind,hp1,Result.andThen_ok];have e1:us.toArray.extract off (off+r.length)=((us.drop off).take r.length).toArray:=by
      simp [List.extract_toArray,List.extract_eq_take_drop]
     rw [e1];have s1:jP J O w xs ((us.drop off).take r.length) 0:=by
      intro i x hx;obtain⟨u,h1,h2⟩:=hxs i x hx;have hi':i<r.length:=by
       rw [←hl];exact (zA.1 hx).1
      exact⟨u,by rw [Nat.zero_add,List.getElem?_take_of_lt hi',List.getElem?_drop];exact h1,h2⟩
     generalize (us.drop off).take r.length=us' at s1 ⊢;simp only [Instr.checkKey,Sem.run_bind,run_underlying hu,Result.andThen_ok];rw [←Array.forIn_toList];have key: ∀(l:List Field) (o:Nat) (r:List BK),kz (flat P d) o l=some r→ ∀(xs:List AV),xs.length=r.length→jP J O w xs us' o→ ∀(body:Field→PUnit→Sem (ForInStep PUnit)),
       (∀f u,f∈l→(body f u)=(if f.name≠ "_" then (do let a ←part f.type us'.toArray f.offset;Instr.checkKey em m f.type a;pure (ForInStep.yield PUnit.unit)) else pure (ForInStep.yield PUnit.unit)))→
       (forIn l PUnit.unit body).run P w= .ok PUnit.unit w:=by
      intro l
      induction l with
      | nil=>intro o r hr xs hl _ body hb;simp
      | cons f l ih=>
       intro o r hr xs hl hx body hb;unfold kz at hr;split at hr
       ·rename_i hname;split at hr
        ·rename_i b hb';split at hr
         ·rename_i r' hr';injection hr with hr;subst hr;simp only [List.length_append] at hl;have h1:=rP em d f.type b hb' (xs.take b.length) us' f.offset m (by omega) (by simp;omega) (by rw [hname.2];exact l7 hx);have h2:=ih (o+b.length) r' hr' (xs.drop b.length) (by simp;omega) (lZ hx) body (fun f' u hf'=>hb f' u (by simp [hf']));simp only [List.forIn_cons,Sem.run_bind];rw [hb f _ (by simp),if_pos hname.1];simp only [Sem.run_bind] at h1 ⊢;generalize (part f.type us'.toArray f.offset).run P w=r1 at h1 ⊢
          cases r1 with
          | halt=>simp [Result.andThen] at h1
          | ok a w1=>
           simp only [Result.andThen_ok] at h1 ⊢;rw [h1];simpa using h2
         ·simp at hr
        ·simp at hr
       ·simp at hr
     have:=key fs.toList 0 r hr xs hl s1 (fun f r=>if f.name≠ "_" then (do let a ←part f.type us'.toArray f.offset;Instr.checkKey em m f.type a;pure (ForInStep.yield PUnit.unit)) else pure (ForInStep.yield PUnit.unit)) (fun _ _ _=>rfl);rw [this];rfl
    ·simp at hf'
   ·simp at hf'
  ·by_cases har: ∃n e,P.underlying t=some (.array n e)
   ·obtain⟨len,e,hu⟩:=har;have hf':=hf;unfold flat at hf'
    cases hi:P.info? t with
    | none=>simp [hu,hi] at hf'
    | some i=>
    simp only [hu,hi] at hf';split at hf'
    ·rename_i r hr;split at hf'
     ·rename_i hlen;injection hf' with hf';have hsz:(sizeOf e).run P w= .ok r.length w:=by
       have h0:=hlen.2
       cases d with
       | zero=>simp [flat] at hr
       | succ d=>
        cases hie:P.info? e with
        | none=>
         unfold flat at hr;rw [hie] at hr;cases hue:P.underlying e <;> simp [hue] at hr
        | some ie=>simp [Program.cellsOf,hie] at h0;simp [sizeOf,typeInfo,hie,h0]
      have hbl:bs.length=i.size:=by
       rw [←hf',←hlen.1,List.length_flatMap,List.map_const',List.length_range,List.sum_replicate_nat]
      have hp:(part t us.toArray off).run P w= .ok (.agg (us.toArray.extract off (off+bs.length))) w:=by
       simp only [part,Sem.run_bind,iK hu,Result.andThen_ok,tH,if_true,sizeOf,typeInfo,run_program,hi,Sem.run_pure,hbl]
      rw [Sem.run_bind,hp,Result.andThen_ok];have e1:us.toArray.extract off (off+bs.length)=((us.drop off).take bs.length).toArray:=by
       simp [List.extract_toArray,List.extract_eq_take_drop]
      rw [e1];have s1:jP J O w xs ((us.drop off).take bs.length) 0:=by
       intro i x hx;obtain⟨u,h1,h2⟩:=hxs i x hx;have hi':i<bs.length:=by
        rw [←hl];exact (zA.1 hx).1
       exact⟨u,by rw [Nat.zero_add,List.getElem?_take_of_lt hi',List.getElem?_drop];exact h1,h2⟩
      generalize (us.drop off).take bs.length=us' at s1 ⊢;simp only [Instr.checkKey,Sem.run_bind,run_underlying hu,Result.andThen_ok];simp only [Std.Legacy.Range.forIn_eq_forIn_range',Std.Legacy.Range.size,Nat.sub_zero,Nat.add_sub_cancel,Nat.div_one];have key: ∀(k s:Nat) (xs:List AV),xs.length=k*r.length→jP J O w xs us' (s*r.length)→ ∀(body:Nat→PUnit→Sem (ForInStep PUnit)),
        (∀i u,(body i u).run P w=(do let n ←sizeOf e;let a ←part e us'.toArray (i*n);Instr.checkKey em m e a;pure (ForInStep.yield PUnit.unit)).run P w)→
        (forIn (List.range' s k) PUnit.unit body).run P w= .ok PUnit.unit w:=by
       intro k
       induction k with
       | zero=>intro s xs _ _ body _;simp
       | succ k ih=>
        intro s xs hlx hx body hb;rw [Nat.add_mul,Nat.one_mul] at hlx;have h1:=rP em d e r hr (xs.take r.length) us' (s*r.length) m (by omega) (by simp;omega) (l7 hx);have h2:=ih (s+1) (xs.drop r.length) (by simp;omega) (by rw [Nat.add_mul,Nat.one_mul];exact lZ hx) body hb;rw [List.range'_succ];simp only [List.forIn_cons,Sem.run_bind];rw [hb s _];simp only [Sem.run_bind,hsz,Result.andThen_ok] at h1 ⊢;generalize (part e us'.toArray (s*r.length)).run P w=r1 at h1 ⊢
        cases r1 with
        | halt=>simp [Result.andThen] at h1
        | ok a w1=>
         simp only [Result.andThen_ok] at h1 ⊢;rw [h1];simpa using h2
      have hb':bs.length=len*r.length:=by rw [hbl,←hlen.1]
      rw [key len 0 xs (by rw [hl,hb']) (by simpa using s1) _ (fun i u=>by simp only [Sem.run_bind,hsz,Result.andThen_ok])];rfl
     ·simp at hf'
    ·simp at hf'
   ·have hb:=DC hf (fun fs h=>hst ⟨fs,h⟩) (fun n e h=>har ⟨n,e,h⟩);have hd: ∃dd,P.underlying t=some dd∧((∃k,dd= .int k)∨dd= .string∨dd= .bool)∧bs.length=1:=by
     rcases hb with⟨k,hu,rfl⟩ | ⟨hu,rfl⟩ | ⟨hu,rfl⟩
     ·exact⟨_,hu,.inl ⟨k,rfl⟩,rfl⟩
     ·exact⟨_,hu,.inr (.inl rfl),rfl⟩
     ·exact⟨_,hu,.inr (.inr rfl),rfl⟩
    obtain⟨dd,hu,hdd,hbl⟩:=hd;obtain⟨x,rfl⟩:=List.length_eq_one_iff.1 (hl.trans hbl);obtain⟨u,h1,h2⟩:=hxs 0 x (by simp);have hp:(part t us.toArray off).run P w= .ok u w:=by
     have hag:tH dd=false:=by rcases hdd with⟨k,rfl⟩ | rfl | rfl <;> rfl
     simp only [part,Sem.run_bind,iK hu,Result.andThen_ok,hag,Bool.false_eq_true,if_false];have:us.toArray[off]? =some u:=by simpa using h1
     rw [this];rfl
    rw [Sem.run_bind,hp,Result.andThen_ok,xO em m t u hu hdd]
theorem vJ (em:Bool) {t:TypeId} {k:AV} {v:Value} {kvs:List (AV×AV)} (hk:bC P t k kvs)(hv:aQ J O w k v):(Instr.checkKey em 10000 t v).run P w= .ok () w:=by
 obtain⟨ha,bs,hf,hc,hxx⟩:=hk;clear hxx;have hl:=(gN _ _ _ hc).1;have hok:=rU hf;have hcells:=DD hf;unfold dY at ha
 cases hag:(ax P t).agg with
 | true=>
  rw [hag] at ha;cases k <;> simp only at ha
  rename_i xs;simp only [ah] at hl
  cases hv with
  | agg _ us hl1 ho1 h1=>
   have h0:=rP (P:=P) em 50 t bs hf xs us 0 10000 (by omega) hl (ik hl1 h1);have p1:(part t us.toArray 0).run P w= .ok (.agg us.toArray) w:=by
    simp only [part,Sem.run_bind,lY hok,hag,Result.andThen_ok,if_true,cK hok,hcells,Sem.run_pure];congr 2
    simp [←hl,hl1]
   rwa [Sem.run_bind,p1,Result.andThen_ok] at h0
 | false=>
  rw [hag] at ha;have hnx: ∀cs,k≠ .agg cs:=by rintro cs rfl;simp at ha
  rw [gm hv hnx] at hl;have h0:=rP (P:=P) em 50 t bs hf [k] [v] 0 10000 (by omega) hl (ik rfl (bX.cons hv .nil).2);have p1:(part t [v].toArray 0).run P w= .ok v w:=by
   simp [part,lY hok,hag]
  rwa [Sem.run_bind,p1,Result.andThen_ok] at h0
def o9 (kvs:List (AV×AV))(k:AV):Option Nat:=kvs.findIdx? fun p=>ku (ah k) (ah p.1)
theorem Gu {t:TypeId} {d:TypeDesc} (hu:P.underlying t=some d) {k p:AV} {u v:Value} (hk:aQ J O w k u)(hp:aQ J O w p v) {bs:List BK} (hf:flat P 50 t=some bs)(hak:dY (ax P t) k)(hap:dY (ax P t) p)
  (hc:nL bs (ah k) (ah p)):Instr.sameNow d u v=some (ku (ah k) (ah p))∨Instr.sameNow d u v=none:=by
 cases d with
 | int kd=>
  have hag:(ax P t).agg=false:=by
   obtain⟨d',i,hd,hi,e⟩:=dX (rU hf);rw [e];rw [hu] at hd;injection hd with hd;subst hd;rfl
  unfold dY at hak hap;rw [hag] at hak hap;have hnk: ∀cs,k≠ .agg cs:=by rintro cs rfl;simp at hak
  have hnp: ∀cs,p≠ .agg cs:=by rintro cs rfl;simp at hap
  rw [gm hk hnk,gm hp hnp] at hc ⊢;obtain⟨b,rfl⟩:=List.length_eq_one_iff.1 ((gN _ _ _ hc).1.symm);simp only [nL,and_true] at hc;unfold De at hc;split at hc
  ·cases hk;cases hp
   subst hc;left;simp [Instr.sameNow,ku,nJ]
  ·right;cases hk;cases hp;rfl
  ·right;cases hk;cases hp;rfl
  ·exact hc.elim
 | string=>
  have hag:(ax P t).agg=false:=by
   obtain⟨d',i,hd,hi,e⟩:=dX (rU hf);rw [e];rw [hu] at hd;injection hd with hd;subst hd;rfl
  unfold dY at hak hap;rw [hag] at hak hap;have hnk: ∀cs,k≠ .agg cs:=by rintro cs rfl;simp at hak
  have hnp: ∀cs,p≠ .agg cs:=by rintro cs rfl;simp at hap
  rw [gm hk hnk,gm hp hnp] at hc ⊢;obtain⟨b,rfl⟩:=List.length_eq_one_iff.1 ((gN _ _ _ hc).1.symm);simp only [nL,and_true] at hc;unfold De at hc;split at hc
  ·right;cases hk;cases hp;rfl
  ·cases hk;cases hp
   left
   simp [Instr.sameNow,ku,nJ,beq_toListBytes,Kg]
  ·right;cases hk;cases hp;rfl
  ·exact hc.elim
 | bool=>
  have hag:(ax P t).agg=false:=by
   obtain⟨d',i,hd,hi,e⟩:=dX (rU hf);rw [e];rw [hu] at hd;injection hd with hd;subst hd;rfl
  unfold dY at hak hap;rw [hag] at hak hap;have hnk: ∀cs,k≠ .agg cs:=by rintro cs rfl;simp at hak
  have hnp: ∀cs,p≠ .agg cs:=by rintro cs rfl;simp at hap
  rw [gm hk hnk,gm hp hnp] at hc ⊢;obtain⟨b,rfl⟩:=List.length_eq_one_iff.1 ((gN _ _ _ hc).1.symm);simp only [nL,and_true] at hc;unfold De at hc;split at hc
  ·right;cases hk;cases hp;rfl
  ·right;cases hk;cases hp;rfl
  ·cases hk;cases hp
   left
   simp [Instr.sameNow,ku,nJ]
  ·exact hc.elim
 | _=>right;cases u <;> cases v <;> rfl
def foundAt (kvs:List (AV×AV))(k:AV)(es:List MapEntry)(i:Nat):Option (Nat×Value):=match o9 kvs k with
 | some j=>(es[j]?).map fun e=>(i+j,e.val)
 | none=>none
theorem qV {p:AV×AV} {kvs:List (AV×AV)} {k:AV} {e:MapEntry} {es:List MapEntry} {i:Nat} (h:ku (ah k) (ah p.1)=true):foundAt (p::kvs) k (e::es) i=some (i,e.val):=by
 simp [foundAt,o9,List.findIdx?_cons,h]
theorem pQ {p:AV×AV} {kvs:List (AV×AV)} {k:AV} {e:MapEntry} {es:List MapEntry} {i:Nat} (h:ku (ah k) (ah p.1)=false):foundAt (p::kvs) k (e::es) i=foundAt kvs k es (i+1):=by
 simp only [foundAt,o9,List.findIdx?_cons,h,Bool.false_eq_true,if_false]
 cases hx:kvs.findIdx? (fun p=>ku (ah k) (ah p.1)) with
 | none=>simp
 | some j=>
  simp only [Option.map_some,List.getElem?_cons_succ]
  cases es[j]? with
  | none=>rfl
  | some e=>simp only [Option.map_some,Option.some.injEq,Prod.mk.injEq,and_true];omega
theorem qP {t:TypeId} {k:AV} {u:Value} (hk:aQ J O w k u): ∀(kvs:List (AV×AV)) (es:List MapEntry) (i:Nat),bC P t k kvs→es.length=kvs.length→
  (∀(i:Nat) (e:MapEntry) (p:AV×AV),es[i]? =some e→kvs[i]? =some p→aQ J O w p.1 e.key)→(Instr.findAsking t u es i).run P w= .ok (foundAt kvs k es i) w
 | [],[],i,_,_,_=>by simp [Instr.findAsking,foundAt,o9]
 | [],_::_,_,_,h,_=>by simp at h
 | _::_,[],_,_,h,_=>by simp at h
 | p::kvs,e::es,i,hok,hl,hr=>by
  obtain⟨ha,bs,hf,hc,hall⟩:=hok;obtain⟨hap,hcp⟩:=hall p (by simp);have he:=Dq (P:=P) hf hk (hr 0 e p rfl rfl) ha hap hcp 10000 (by omega);have he':(Op.equal t u e.key).run P w= .ok (ku (ah k) (ah p.1)) w:=he;simp only [Instr.findAsking,Sem.run_bind,he',Result.andThen_ok]
  cases hcc:ku (ah k) (ah p.1) with
  | true=>rw [qV hcc];simp
  | false=>
   rw [pQ hcc];simp only [Bool.false_eq_true,if_false];exact qP hk kvs es (i+1) ⟨ha,bs,hf,hc,fun q hq=>hall q (by simp [hq])⟩ (by simpa using hl) (fun j e' p' h1 h2=>hr (j+1) e' p' (by simpa using h1) (by simpa using h2))
theorem wM {t:TypeId} {d:TypeDesc} (hu:P.underlying t=some d) {k:AV} {u:Value} (hk:aQ J O w k u): ∀(kvs:List (AV×AV)) (es:List MapEntry) (i:Nat),bC P t k kvs→es.length=kvs.length→
  (∀(i:Nat) (e:MapEntry) (p:AV×AV),es[i]? =some e→kvs[i]? =some p→aQ J O w p.1 e.key)→Instr.findNow d u es i=some (foundAt kvs k es i)∨Instr.findNow d u es i=none
 | [],[],i,_,_,_=>by simp [Instr.findNow,foundAt,o9]
 | [],_::_,_,_,h,_=>by simp at h
 | _::_,[],_,_,h,_=>by simp at h
 | p::kvs,e::es,i,hok,hl,hr=>by
  obtain⟨ha,bs,hf,hc,hall⟩:=hok;obtain⟨hap,hcp⟩:=hall p (by simp);rcases Gu hu hk (hr 0 e p rfl rfl) hf ha hap hcp with h1 | h1
  ·simp only [Instr.findNow,h1]
   cases hcc:ku (ah k) (ah p.1) with
   | true=>left;rw [qV hcc]
   | false=>
    rw [pQ hcc];exact wM hu hk kvs es (i+1) ⟨ha,bs,hf,hc,fun q hq=>hall q (by simp [hq])⟩ (by simpa using hl) (fun j e' p' h1 h2=>hr (j+1) e' p' (by simpa using h1) (by simpa using h2))
  ·right;simp [Instr.findNow,h1]
theorem mg {t:TypeId} {k:AV} {u:Value} (hk:aQ J O w k u) {kvs:List (AV×AV)} {es:List MapEntry} (hok:bC P t k kvs)(hl:es.length=kvs.length)
  (hr: ∀(i:Nat) (e:MapEntry) (p:AV×AV),es[i]? =some e→kvs[i]? =some p→aQ J O w p.1 e.key):(Instr.findKey t u es).run P w= .ok (foundAt kvs k es 0) w:=by
 obtain⟨d,i,hu,_,_⟩:=dX (rU hok.2.choose_spec.1);simp only [Instr.findKey,Sem.run_bind,run_underlying hu,Result.andThen_ok];rcases wM hu hk kvs es 0 hok hl hr with h1 | h1
 ·rw [h1];rfl
 ·rw [h1];exact qP hk kvs es 0 hok hl hr
theorem uk {t:TypeId} (hz:mZ (ax P t)): ∃z,(zeroValue t).run P w= .ok z w∧aQ J O w (kH (ax P t)) z:=by
 obtain⟨hok,hzok,hl⟩:=hz;obtain⟨z,h1,h2,h3,h4⟩:=fT hok hzok w;refine⟨z,h1,?_⟩;unfold kH;have hr:=kE (J:=J) (O:=O) (w:=w) h2;rw [←h3] at hr
 cases hag:(ax P t).agg with
 | true=>
  rw [hag] at h4;cases z <;> simp [Jw] at h4
  rename_i cs;have e:cs=cs.toList.toArray:=by simp
  simp only [Value.cells] at hr h2
  conv=>rhs;rw [e]
  exact .agg _ _ hr.1 h2 hr.2
 | false=>
  rw [hag] at h4;have hc:z.cells.toList=[z]:=by cases z <;> first | rfl | simp [Jw] at h4
  rw [hc] at h3 hr;rw [h3];exact hr.2 0 _ z (by rw [h3];rfl) rfl
end
end Go.Abs
end
section
namespace Go.Abs
open Go
section
variable {P : Program} {gl : aR} {J : List eF} {h : ak} {w : World} {O : Nat → Prop} {fr : aP}
theorem mJ {r:Nat} {o:Obj} (hr:w.heap[r]? =some o)(hn: ∀c e f,o≠ .cells c e f):(getObj r).run P w= .ok o w:=by
 simp only [getObj,Sem.run,hr]
theorem SH (hh:dm gl h J w) {b:Nat} {v:Value} (hv:aQ J (Own h J) w (.map b) v)(hm:isMap h b=true):
  ∃(r:Nat) (es:Array MapEntry) (clock:Nat),v= .map (some r)∧w.heap[r]? =some (.map es clock)∧es.size=(hmap h b).length∧
   ∀(i:Nat) (e:MapEntry) (p:AV×AV),es[i]? =some e→(hmap h b)[i]? =some p→aQ J (Own h J) w p.1 e.key∧aQ J (Own h J) w p.2 e.val:=by
 unfold isMap at hm;split at hm
 ·rename_i kvs hb
  cases hv with
  | map _ k hk=>
   obtain⟨es,clock,h1,h2,h3,_⟩:=hh.obj b k _ hk hb;have e:hmap h b=kvs:=by simp [hmap,hb]
   rw [e];exact⟨k.r,es,clock,rfl,h1,h2,h3⟩
 ·cases hm
theorem Ky {kvs:List (AV×AV)} {k:AV} {es:List MapEntry} (hl:es.length=kvs.length)(hr: ∀(i:Nat) (e:MapEntry) (p:AV×AV),es[i]? =some e→kvs[i]? =some p→aQ J O w p.2 e.val):
  (iy kvs k=none∧foundAt kvs k es 0=none)∨ ∃x i u,iy kvs k=some x∧foundAt kvs k es 0=some (i,u)∧aQ J O w x u:=by
 unfold iy foundAt o9
 cases hx:kvs.findIdx? (fun p=>ku (ah k) (ah p.1)) with
 | none=>
  left
  refine⟨?_,rfl⟩;rw [List.findIdx?_eq_none_iff] at hx;simp only [Option.map_eq_none_iff,List.find?_eq_none];intro p hp;simp [hx p hp]
 | some j=>
  right
  have hj:=List.findIdx?_eq_some_iff_getElem.1 hx;obtain⟨hlt,h1,h2⟩:=hj;have hf:kvs.find? (fun p=>ku (ah k) (ah p.1))=some kvs[j]:=by
   rw [List.find?_eq_some_iff_getElem];exact⟨h1,j,hlt,rfl,fun i hi=>by simpa using h2 i hi⟩
  have he:es[j]? =some (es[j]'(by omega)):=zB (by omega);refine⟨kvs[j].2,j,(es[j]'(by omega)).val,by simp [hf],by simp [he],hr j _ _ he (zB hlt)⟩
theorem Gd (hh:dm gl h J w) {t:TypeId} {x k:AV} {u v:Value} (ok:Bool)(hx:aQ J (Own h J) w x u)(hk:aQ J (Own h J) w k v)(hok:JD P h (ax P t).kind x k):
  kN P J (Own h J) w (Instr.lookup t u v ok) (Pw P h (ax P t).kind x k ok):=by
 unfold JD at hok;unfold Pw;split at hok
 ·rename_i kt et b hkd;obtain⟨hu,_⟩:=oI hkd;obtain⟨hm,hz,hks⟩:=hok;obtain⟨r,es,clock,rfl,h1,h2,h3⟩:=SH hh hx hm;obtain⟨z,hz1,hz2⟩:=uk (J:=J) (O:=Own h J) (w:=w) hz;have hg:(getObj r).run P w= .ok (.map es clock) w:=mJ h1 (by intros;simp);have hck:=vJ (P:=P) es.isEmpty hks hk;have hfk:=mg (P:=P) hk hks (es:=es.toList) (by simpa using h2) (fun i e p h4 h5=>(h3 i e p (by simpa using h4) h5).1);have hal:=Ky (J:=J) (O:=Own h J) (w:=w) (k:=k) (kvs:=hmap h b) (es:=es.toList) (by simpa using h2) (fun i e p h4 h5=>(h3 i e p (by simpa using h4) h5).2);rcases hal with⟨e1,e2⟩ | ⟨y,i,uy,e1,e2,e3⟩
  ·simp only [e1,Option.getD_none,Option.isSome_none]
   cases ok with
   | true=>
    refine⟨_,?_,.tup [kH (ax P et),.bool false] [z,.bool false] rfl (bX.cons hz2 (bX.cons (.bool _) .nil)).2⟩;simp [Instr.lookup,run_underlying hu,hg,hck,hfk,e2,hz1]
   | false=>
    refine⟨_,?_,hz2⟩;simp [Instr.lookup,run_underlying hu,hg,hck,hfk,e2,hz1]
  ·simp only [e1,Option.getD_some,Option.isSome_some]
   cases ok with
   | true=>
    refine⟨_,?_,.tup [y,.bool true] [uy,.bool true] rfl (bX.cons e3 (bX.cons (.bool _) .nil)).2⟩;simp [Instr.lookup,run_underlying hu,hg,hck,hfk,e2]
   | false=>
    refine⟨_,?_,e3⟩;simp [Instr.lookup,run_underlying hu,hg,hck,hfk,e2]
 ·rename_i kt et hkd;obtain⟨hu,_⟩:=oI hkd;obtain⟨hz,hks⟩:=hok;cases hx
  obtain⟨z,hz1,hz2⟩:=uk (J:=J) (O:=Own h J) (w:=w) hz;have hck:=vJ (P:=P) true hks hk;have hfk:=mg (P:=P) hk hks (es:=[]) rfl (by simp);have hfa:foundAt [] k [] 0=none:=rfl;rw [hfa] at hfk
  cases ok with
  | true=>
   refine⟨_,?_,.tup [kH (ax P et),.bool false] [z,.bool false] rfl (bX.cons hz2 (bX.cons (.bool _) .nil)).2⟩;simp [Instr.lookup,run_underlying hu,hck,hfk,hz1]
  | false=>
   refine⟨_,?_,hz2⟩;simp [Instr.lookup,run_underlying hu,hck,hfk,hz1]
 ·exact hok.elim
theorem Dw {i:Nat} {x:AV} {u:Value} (hx:aQ J O w x u)(hok:vM i x):kN P J O w (Instr.extract u i) (yw i x):=by
 unfold vM at hok;unfold yw;split at hok
 ·rename_i l
  cases hx with
  | tup _ vs hl hr=>
   have e1:l[i]? =some l[i]:=zB hok;have e2:vs[i]? =some (vs[i]'(by omega)):=zB (by omega);refine⟨vs[i]'(by omega),?_,?_⟩
   ·simp [Instr.extract,e2]
   ·simpa [List.getD,e1] using hr i _ _ e1 e2
 ·exact hok.elim
theorem J9 (hh:dm gl h J w) {t:TypeId} {x:AV} {u:Value} {lo hi:Option Value} {l' h':Option Int} (hx:aQ J (Own h J) w x u)(hl: ∀v∈lo,∃k n,v= .int k n∧l'=some n)(hln:lo=none→l'=none)
  (hhi: ∀v∈hi,∃k n,v= .int k n∧h'=some n) (hhn:hi=none→h'=none) (hok:aU P h (ax P t).kind x l' h'):kN P J (Own h J) w (Instr.sliceAt t u lo hi none) (aS x l' h'):=by
 unfold aU at hok;split at hok
 ·rename_i s hk;obtain⟨hu,_⟩:=uO hk;cases hx
  obtain⟨hb,b1,b2⟩:=lX (P:=P) (w:=w) (isSlice:=false) (cap:=s.length) (Nat.le_refl _) (fun _=>rfl) hl hln hhi hhn hok;refine⟨_,?_,.str _⟩;have hsz:(⟨s.toArray⟩:ByteArray).size=s.length:=by simp [ByteArray.size]
  simp only [Instr.sliceAt,Instr.slice,Sem.run_bind,run_underlying hu,Result.andThen_ok,hsz];simp only [Option.isSome_none,Bool.false_eq_true,if_false,Sem.run_bind,Sem.run_pure,Result.andThen_ok,hb];congr 2
  apply ByteArray.ext;show _=((s.take (eY h' s.length)).drop ((l'.map Int.toNat).getD 0)).toArray;simp only [ByteArray.data_extract,List.extract_toArray,List.extract_eq_take_drop];congr 1
  rw [List.drop_take]
 ·rename_i e es hk;obtain⟨hu,_⟩:=dF hk;obtain⟨he,hlen,hsl⟩:=hok
  cases hx with
  | roNil=>
   obtain⟨hb,b1,b2⟩:=lX (P:=P) (w:=w) (isSlice:=true) (cap:=0) (Nat.le_refl _) (fun _=>rfl) hl hln hhi hhn hsl;have e1:(l'.map Int.toNat).getD 0=0:=by simp at b2;omega
   have e2:eY h' 0=0:=by simpa using b2
   refine⟨.slice none 0 0,?_,by simpa [aS] using aQ.roNil⟩;have hb':(Instr.sliceBounds true 0 0 lo hi none).run P w= .ok ((l'.map Int.toNat).getD 0,eY h' 0,0) w:=hb;rw [e1,e2] at hb';simp only [Instr.sliceAt,Instr.slice,Sem.run_bind,run_underlying hu,Result.andThen_ok,hb',cK he,Sem.run_pure,if_true,Nat.sub_zero]
  | ro _ a n cap f hcap hn hO hl0 hc h1 hr=>
   obtain⟨hb,b1,b2⟩:=lX (P:=P) (w:=w) (isSlice:=true) (cap:=cap) hcap (by simp) hl hln hhi hhn hsl;have hrun:(Instr.sliceAt t (.slice (some a) es.length cap) lo hi none).run P w= .ok (.slice (if cap=(l'.map Int.toNat).getD 0 then some a else (some a).map (·.add ((l'.map Int.toNat).getD 0*(ax P e).cells))) (eY h' es.length - (l'.map Int.toNat).getD 0) (cap - (l'.map Int.toNat).getD 0)) w:=by
    simp only [Instr.sliceAt,Instr.slice,Sem.run_bind,run_underlying hu,Result.andThen_ok,hb,cK he,Sem.run_pure]
   refine⟨_,hrun,?_⟩;generalize hlo:(l'.map Int.toNat).getD 0=L at*;simp only [aS,hlo];generalize eY h' es.length=H at*;have hlen':((es.take H).drop L).length=H - L:=by simp;omega
   by_cases hcl:cap=L
   ·have:H - L=0:=by omega
    rw [if_pos hcl,this];have hnil:(es.take H).drop L=[]:=List.eq_nil_of_length_eq_zero (by omega);rw [hnil];exact aQ.ro [] a 1 (cap - L) (fun _ _=>undef) (by simp) (by omega) (.inl rfl) (by simp) (by simp) (by simp) (by simp)
   ·rw [if_neg hcl];simp only [Option.map_some];rw [←hlen'];by_cases hes:es=[]
    ·subst hes;simp only [List.take_nil,List.drop_nil];exact aQ.ro [] _ 1 (cap - L) (fun _ _=>undef) (by simp) (by omega) (.inl rfl) (by simp) (by simp) (by simp) (by simp)
    ·have hcn:(ax P e).cells=n:=by
      obtain⟨y,ys,rfl⟩:=List.exists_cons_of_ne_nil hes;rw [←hlen y (by simp),hl0 0 y rfl]
     rw [hcn];have sub: ∀(i:Nat) (e:List AV),((es.take H).drop L)[i]? =some e→es[L+i]? =some e:=by
      intro i e hi;rw [List.getElem?_drop,List.getElem?_take] at hi;split at hi
      ·exact hi
      ·cases hi
     refine aQ.ro _ (a.add (L*n)) n (cap - L) (fun i c=>f (L+i) c) (by rw [hlen'];omega) hn ?_ ?_ ?_ ?_ ?_
     ·right
      rw [add_block];exact hO.resolve_left hes
     ·intro i e hi;exact hl0 _ e (sub i e hi)
     ·intro i e c x hi hx;rw [add_add',show L*n+(i*n+c)=(L+i)*n+c by rw [Nat.add_mul];omega];exact hc _ e c x (sub i e hi) hx
     ·intro i e c x hi hx;exact h1 _ e c x (sub i e hi) hx
     ·intro i e c x hi hx;exact hr _ e c x (sub i e hi) hx
 ·rename_i e b off len hk;obtain⟨hu,_⟩:=dF hk;obtain⟨he,h0,h1,hsl⟩:=hok
  cases hx with
  | own _ _ _ kb a cap hb ha hlen hcap=>
   obtain⟨es,_,hn,_⟩:=K6 hh hb h0;have hcn:(ax P e).cells=kb.n:=by rw [←h1,hn]
   obtain⟨hbd,b1,b2⟩:=lX (P:=P) (w:=w) (isSlice:=true) (cap:=cap) hlen (by simp) hl hln hhi hhn hsl;have hrun:(Instr.sliceAt t (.slice (some a) len cap) lo hi none).run P w= .ok (.slice (if cap=(l'.map Int.toNat).getD 0 then some a else (some a).map (·.add ((l'.map Int.toNat).getD 0*(ax P e).cells))) (eY h' len - (l'.map Int.toNat).getD 0) (cap - (l'.map Int.toNat).getD 0)) w:=by
    simp only [Instr.sliceAt,Instr.slice,Sem.run_bind,run_underlying hu,Result.andThen_ok,hbd,cK he,Sem.run_pure]
   refine⟨_,hrun,?_⟩;generalize hlo:(l'.map Int.toNat).getD 0=L at*;simp only [aS,hlo];generalize eY h' len=H at*;by_cases hcl:cap=L
   ·rw [if_pos hcl];exact .own b (off+L) (H - L) kb a (cap - L) hb (by omega) (by omega) (by omega)
   ·rw [if_neg hcl];simp only [Option.map_some];refine .own b (off+L) (H - L) kb _ (cap - L) hb (fun hpos'=> ?_) (by omega) (by omega);rw [ha (by omega),hcn,mM,show kb.base+off*kb.n+L*kb.n=kb.base+(off+L)*kb.n by rw [Nat.add_mul];omega]
 ·rename_i e hk;obtain⟨hu,_⟩:=dF hk;obtain⟨he,hsl⟩:=hok;cases hx
  obtain⟨hb,b1,b2⟩:=lX (P:=P) (w:=w) (isSlice:=true) (cap:=0) (Nat.le_refl _) (fun _=>rfl) hl hln hhi hhn hsl;refine⟨.slice none 0 0,?_,.nil⟩;have e2:eY h' 0=0:=by omega
  have e1:(l'.map Int.toNat).getD 0=0:=by omega
  simp only [Instr.sliceAt,Instr.slice,Sem.run_bind,run_underlying hu,Result.andThen_ok,hb,cK he,Sem.run_pure,e1,e2,if_true,Nat.sub_zero]
 ·rename_i e hk;obtain⟨hu,_⟩:=dF hk;obtain⟨he,hsl⟩:=hok
  cases hx with
  | e0 a=>
   obtain⟨hb,b1,b2⟩:=lX (P:=P) (w:=w) (isSlice:=true) (cap:=0) (Nat.le_refl _) (fun _=>rfl) hl hln hhi hhn hsl;refine⟨.slice a 0 0,?_,.e0 a⟩;have e2:eY h' 0=0:=by omega
   have e1:(l'.map Int.toNat).getD 0=0:=by omega
   simp only [Instr.sliceAt,Instr.slice,Sem.run_bind,run_underlying hu,Result.andThen_ok,hb,cK he,Sem.run_pure,e1,e2,if_true,Nat.sub_zero]
 ·exact hok.elim
theorem getElem?_splice {α:Type} (e:List α)(c:Nat)(cs:List α)(h:c+cs.length≤e.length)(i:Nat):
  (splice e c cs)[i]? =if c≤i∧i<c+cs.length then cs[i - c]? else e[i]? :=by
 unfold splice;have hl:(e.take c).length=c:=by simp;omega
 by_cases h1:i<c
 ·rw [if_neg (by omega),zK,zC (by omega),List.getElem?_take_of_lt h1]
 ·by_cases h2:i<c+cs.length
  ·rw [if_pos ⟨by omega,h2⟩,zK,zD (by omega),zC (by omega),hl]
  ·rw [if_neg (by omega),zK,zD (by omega),zD (by omega),hl,List.getElem?_drop];congr 1
   omega
theorem fM {α:Type} (e:List α)(c:Nat)(cs:List α)(h:c+cs.length≤e.length):(splice e c cs).length=e.length:=by
 simp [splice];omega
theorem foldl_set (off:Nat): ∀(l:List Value) (k:Nat) (cs:Array Value) (i:Nat),
  ((l.zipIdx k).foldl (fun (cs:Array Value) (p:Value×Nat)=>cs.setIfInBounds (off+p.2) p.1) cs)[i]? =if off+k≤i∧i<off+k+l.length∧i<cs.size then l[i - (off+k)]? else cs[i]?
 | [],k,cs,i=>by simp;omega
 | v::l,k,cs,i=>by
  simp only [List.zipIdx_cons,List.foldl_cons];rw [foldl_set off l (k+1) (cs.setIfInBounds (off+k) v) i];simp only [Array.size_setIfInBounds,List.length_cons];by_cases h1:off+(k+1)≤i∧i<off+(k+1)+l.length∧i<cs.size
  ·rw [if_pos h1,if_pos (by omega)];rw [show i - (off+k)=(i - (off+(k+1)))+1 by omega,List.getElem?_cons_succ]
  ·rw [if_neg h1];by_cases h2:off+k=i
   ·subst h2;by_cases h3:off+k<cs.size
    ·rw [if_pos (by omega),Array.getElem?_setIfInBounds_self_of_lt h3];simp
    ·rw [if_neg (by omega)];rw [Array.getElem?_eq_none (by simp;omega),Array.getElem?_eq_none (by omega)]
   ·rw [if_neg (by omega),Array.getElem?_setIfInBounds_ne h2]
theorem AX (off:Nat)(vs:Array Value)(cs:List Value)(h:off+vs.size≤cs.length):
  (vs.zipIdx.foldl (fun (cs:Array Value) (p:Value×Nat)=>cs.setIfInBounds (off+p.2) p.1) cs.toArray)=(splice cs off vs.toList).toArray:=by
 apply Array.ext_getElem?;intro i;have e:vs.zipIdx.foldl (fun (cs:Array Value) (p:Value×Nat)=>cs.setIfInBounds (off+p.2) p.1) cs.toArray=(vs.toList.zipIdx 0).foldl (fun (cs:Array Value) (p:Value×Nat)=>cs.setIfInBounds (off+p.2) p.1) cs.toArray:=by
  rw [←Array.foldl_toList];congr 1
  simp
 rw [e,foldl_set off vs.toList 0 cs.toArray i];have hg:=getElem?_splice cs off vs.toList (by simpa using h) i;simp only [List.getElem?_toArray,Array.length_toList,Nat.add_zero] at hg ⊢;rw [hg];by_cases h1:off≤i∧i<off+vs.size
 ·rw [if_pos ⟨h1.1,h1.2,by simp;omega⟩,if_pos h1]
 ·rw [if_neg (by omega),if_neg h1]
theorem bX.splice {xs ys:List AV} {us vs:List Value} {c:Nat} (h1:bX J O w xs us)(h2:bX J O w ys vs)(hc:c+ys.length≤xs.length):bX J O w (splice xs c ys) (splice us c vs):=by
 have hl1:=h1.1;have hl2:=h2.1;refine⟨by rw [fM _ _ _ hc,fM _ _ _ (by omega)];exact hl1,fun i x v hx hv=> ?_⟩;rw [getElem?_splice _ _ _ hc] at hx;rw [getElem?_splice _ _ _ (by omega),←hl2] at hv;split at hx
 ·rename_i h;rw [if_pos h] at hv;exact h2.2 _ _ _ hx hv
 ·rename_i h;rw [if_neg h] at hv;exact h1.2 _ _ _ hx hv
theorem Eh {α:Type} {e cs:List α} {c:Nat} {x:α} (h:x∈splice e c cs):x∈e∨x∈cs:=by
 unfold splice at h;simp only [List.mem_append] at h;rcases h with (h | h) | h
 ·exact .inl (List.mem_of_mem_take h)
 ·exact .inr h
 ·exact .inl (List.mem_of_mem_drop h)
theorem pJ {x:AV} {v:Value} (hv:aQ J O w x v)(hs:x.solid=true):bX J O w (ah x) v.cells.toList∧ ∀u∈v.cells.toList,u.oneCell'=true:=by
 cases hv <;> first
  | (simp [AV.solid] at hs;done)
  | skip
 case agg cs vs hl h1 hh=>simp only [ah,Value.cells];exact⟨⟨hl,hh⟩,by simpa using h1⟩
 case lit=>
  rename_i h;cases v <;> first
   | (simp [Value.oneCell'] at h;done)
   | exact⟨bX.cons (.lit _ rfl) .nil,by simp [Value.cells,Value.oneCell']⟩
 all_goals
  refine⟨bX.cons ?_ .nil,by simp [Value.cells,Value.oneCell']⟩;first
   | exact .bool _
   | exact .int _ _
   | exact .str _
   | exact .nil
   | exact .e0 _
   | exact .roNil
   | exact .ro _ _ _ _ _ ‹_› ‹_› ‹_› ‹_› ‹_› ‹_› ‹_›
   | exact .rop _ _ _ _ _ _ ‹_› ‹_› ‹_› ‹_› ‹_› ‹_›
   | exact .own _ _ _ _ _ _ ‹_› ‹_› ‹_› ‹_›
   | exact .ptr _ _ _ _ ‹_›
   | exact .fn _ _ _ _ _ ‹_› ‹_› ‹_› ‹_›
   | exact .map _ _ ‹_›
   | exact .obj _ _ ‹_›
   | exact .iface _ _ _ ‹_›
end
end Go.Abs
end
section
namespace Go.Abs
open Go
section
variable {P : Program} {gl : aR} {J : List eF} {h : ak} {w : World} {O : Nat → Prop} {fr : aP}
def GD (J:List eF)(O:Nat→Prop)(w:World):List (Nat×AV)→List (Nat×Value)→Prop
 | [],[]=>True
 | (i,x)::ps,(j,v)::qs=>i=j∧aQ J O w x v∧GD J O w ps qs
 | _,_=>False
theorem AU {T:TI} {place:Nat→Option (Nat×Nat)} (hp: ∀i,i<(fieldsOf T).length→place i=some (oG T i,Sj T i)): ∀(ps:List (Nat×AV)) (qs:List (Nat×Value)) (cs:List AV) (vs:List Value),GD J O w ps qs→bX J O w cs vs→
  (∀v∈vs,v.oneCell'=true)→cs.length=T.cells→yj T ps→ ∃vs',Instr.fill place vs.toArray qs=some vs'.toArray∧bX J O w (Cc T ps cs) vs'∧ ∀v∈vs',v.oneCell'=true
 | [],[],cs,vs,_,h1,h2,_,_=>⟨vs,rfl,h1,h2⟩
 | [],_::_,_,_,h,_,_,_,_=>h.elim
 | (_,_)::_,[],_,_,h,_,_,_,_=>h.elim
 | (i,x)::ps,(j,v)::qs,cs,vs,h,h1,h2,hl,hok=>by
  obtain⟨rfl,hv,hps⟩:=h;obtain⟨hs,hi,hlen,hle,hok'⟩:=hok;obtain⟨hc1,hc2⟩:=pJ hv hs;have hsz:v.cells.size=Sj T i:=by rw [←hlen,hc1.1];simp
  have hvs:=h1.1;obtain⟨vs',e1,e2,e3⟩:=AU hp ps qs (splice cs (oG T i) (ah x)) (splice vs (oG T i) v.cells.toList) hps (h1.splice hc1 (by rw [hlen];omega))
   (fun u hu=>(Eh hu).elim (h2 u) (hc2 u)) (by rw [fM _ _ _ (by rw [hlen];omega)];exact hl) hok'
  refine⟨vs',?_,e2,e3⟩;simp only [Instr.fill,hp i hi];rw [if_neg (by simp [hsz];omega)];rw [←e1];congr 1
  exact AX (oG T i) v.cells vs (by omega)
theorem uE {n cells:Nat} {place:Nat→Option (Nat×Nat)} (hp: ∀i,place i=some (i*n,n)): ∀(ps:List (Nat×AV)) (qs:List (Nat×Value)) (cs:List AV) (vs:List Value),GD J O w ps qs→bX J O w cs vs→
  (∀v∈vs,v.oneCell'=true)→cs.length=cells→qF n cells ps→ ∃vs',Instr.fill place vs.toArray qs=some vs'.toArray∧bX J O w (nD n ps cs) vs'∧ ∀v∈vs',v.oneCell'=true
 | [],[],cs,vs,_,h1,h2,_,_=>⟨vs,rfl,h1,h2⟩
 | [],_::_,_,_,h,_,_,_,_=>h.elim
 | (_,_)::_,[],_,_,h,_,_,_,_=>h.elim
 | (i,x)::ps,(j,v)::qs,cs,vs,h,h1,h2,hl,hok=>by
  obtain⟨rfl,hv,hps⟩:=h;obtain⟨hs,hlen,hle,hok'⟩:=hok;obtain⟨hc1,hc2⟩:=pJ hv hs;have hsz:v.cells.size=n:=by rw [←hlen,hc1.1];simp
  have hvs:=h1.1;obtain⟨vs',e1,e2,e3⟩:=uE hp ps qs (splice cs (i*n) (ah x)) (splice vs (i*n) v.cells.toList) hps (h1.splice hc1 (by rw [hlen];omega))
   (fun u hu=>(Eh hu).elim (h2 u) (hc2 u)) (by rw [fM _ _ _ (by rw [hlen];omega)];exact hl) hok'
  refine⟨vs',?_,e2,e3⟩;simp only [Instr.fill,hp i];rw [if_neg (by simp [hsz];omega)];rw [←e1];congr 1
  exact AX (i*n) v.cells vs (by omega)
theorem Bc: ∀(fs:List Field),(∀f∈fs,(ax P f.type).ok=true)→fs.mapM (fun f=>(P.info? f.type).map fun i=>(f.offset,i.size))=some (fs.map fun f=>(f.offset,P.cellsOf f.type))
 | [],_=>by simp
 | f::fs,h=>by
  obtain⟨d,i,_,hi,_⟩:=dX (h f (by simp));have:=Bc fs (fun g hg=>h g (by simp [hg]));simp [List.mapM_cons,hi,this,Program.cellsOf]
theorem Ji {t:TypeId} {ps:List (Nat×AV)} {qs:Array (Nat×Value)} (hps:GD J O w ps qs.toList)(hok:Jg P t ps):kN P J O w (Instr.build t qs) (Jh P t ps):=by
 obtain⟨hz,hzl,hok⟩:=hok;unfold Jh;split at hok
 ·rename_i fl hk;obtain⟨hb,hall⟩:=hok;obtain⟨d,hu,hd,htok,hag⟩:=iM hk (by simp)
  cases d with
  | struct fields=>
   simp only [sW,TK.struct.injEq] at hd;obtain⟨z,hz1,hz2,hz3,hz4⟩:=fT htok hz w;have hzr:=kE (J:=J) (O:=O) (w:=w) hz2;rw [←hz3] at hzr;have hfo:fieldsOf (ax P t)=fl:=by simp [fieldsOf,hk]
   have hpl: ∀i,i<(fieldsOf (ax P t)).length→((fields.toList.map fun f=>(f.offset,P.cellsOf f.type)).toArray)[i]? =some (oG (ax P t) i,Sj (ax P t) i):=by
    intro i hi;rw [hfo,←hd] at hi;simp only [List.length_map,Array.length_toList] at hi;simp [oG,Sj,hfo,←hd,List.getD,Array.getElem?_eq_getElem hi]
   obtain⟨vs',e1,e2,e3⟩:=AU hpl ps qs.toList _ z.cells.toList hps hzr hz2 (by rw [hzl]) hb;have hbuilt:P.built t qs.toList=some vs'.toArray:=by
    obtain⟨d',i,hd',hi,e⟩:=dX htok;have hzz: ∃zz,i.zero=some zz∧zz=z:=by
     simp only [zeroValue,typeInfo,Sem.run_bind,run_program,Result.andThen_ok,hi,Sem.run_pure] at hz1
     cases hq:i.zero with
     | none=>simp [hq] at hz1
     | some zz=>simp [hq] at hz1;exact⟨zz,rfl,hz1⟩
    obtain⟨zz,hzz,rfl⟩:=hzz;have hm:=Bc (P:=P) fields.toList (fun f hf=>hall (f.offset,P.cellsOf f.type,f.type) (by rw [←hd];exact List.mem_map.2 ⟨f,hf,rfl⟩));simp only [Program.built,hi,hu,hzz,hm];have ez:zz.cells.toList.toArray=zz.cells:=by simp
    rw [ez] at e1;exact e1
   refine⟨_,run_build w t qs _ hbuilt,.agg _ _ e2.1 e3 e2.2⟩
  | _=>simp [sW] at hd
 ·rename_i n e hk;obtain⟨he,hb⟩:=hok;obtain⟨hu,htok⟩:=r9 hk;obtain⟨z,hz1,hz2,hz3,hz4⟩:=fT htok hz w;have hzr:=kE (J:=J) (O:=O) (w:=w) hz2;rw [←hz3] at hzr;obtain⟨de,ie,hde,hie,eqe⟩:=dX he;have hce:(ax P e).cells=ie.size:=by rw [eqe]
  obtain⟨vs',e1,e2,e3⟩:=uE (place:=fun i=>some (i*ie.size,ie.size)) (n:=(ax P e).cells) (fun i=>by rw [hce]) ps qs.toList _ z.cells.toList hps hzr hz2 (by rw [hzl]) hb;have hbuilt:P.built t qs.toList=some vs'.toArray:=by
   obtain⟨d',i,hd',hi,e⟩:=dX htok;have hzz: ∃zz,i.zero=some zz∧zz=z:=by
    simp only [zeroValue,typeInfo,Sem.run_bind,run_program,Result.andThen_ok,hi,Sem.run_pure] at hz1
    cases hq:i.zero with
    | none=>simp [hq] at hz1
    | some zz=>simp [hq] at hz1;exact⟨zz,rfl,hz1⟩
   obtain⟨zz,hzz,rfl⟩:=hzz;simp only [Program.built,hi,hu,hzz,hie];simpa using e1
  refine⟨_,run_build w t qs _ hbuilt,.agg _ _ e2.1 e3 e2.2⟩
 ·exact hok.elim
theorem NJ (hh:dm gl h J w) {t ty:TypeId} {x:AV} {u:Value} (hx:aQ J (Own h J) w x u)(hok:lenOk h (ax P t).kind x):kN P J (Own h J) w (Builtin.len_ #[t] ty #[u]) (.int .i64 (alen h x)):=by
 unfold lenOk at hok;split at hok
 ·rename_i s hk;obtain⟨hu,_⟩:=uO hk;cases hx
  refine⟨_,run_len_string w t ty _ hu,?_⟩;have:(⟨s.toArray⟩:ByteArray).size=s.length:=by simp [ByteArray.size]
  simp only [goInt,this];exact .int _ _
 ·rename_i e es hk;obtain⟨hu,_⟩:=dF hk;cases hx
  ·exact⟨_,by simp [Builtin.len_,run_underlying hu,goInt];rfl,.int _ _⟩
  ·exact⟨_,by simp [Builtin.len_,run_underlying hu,goInt];rfl,.int _ _⟩
 ·rename_i e b off len hk;obtain⟨hu,_⟩:=dF hk;cases hx
  exact⟨_,by simp [Builtin.len_,run_underlying hu,goInt];rfl,.int _ _⟩
 ·rename_i e hk;obtain⟨hu,_⟩:=dF hk;cases hx
  exact⟨_,by simp [Builtin.len_,run_underlying hu,goInt];rfl,.int _ _⟩
 ·rename_i e hk;obtain⟨hu,_⟩:=dF hk;cases hx
  exact⟨_,by simp [Builtin.len_,run_underlying hu,goInt];rfl,.int _ _⟩
 ·rename_i k e b hk;obtain⟨hu,_⟩:=oI hk;obtain⟨r,es,clock,rfl,h1,h2,h3⟩:=SH hh hx hok;have hg:(getObj r).run P w= .ok (.map es clock) w:=mJ h1 (by intros;simp);refine⟨_,?_,.int _ _⟩;simp [Builtin.len_,run_underlying hu,hg,goInt,alen,h2]
 ·rename_i k e hk;obtain⟨hu,_⟩:=oI hk;cases hx
  exact⟨_,by simp [Builtin.len_,run_underlying hu,goInt];rfl,.int _ _⟩
 ·exact hok.elim
theorem Y6 (x y:Int):(if y<x then y else x)=min x y:=by rw [Int.min_def];split <;> split <;> omega
theorem Y5 (x y:Int):(if y>x then y else x)=max x y:=by rw [Int.max_def];split <;> split <;> omega
theorem C8 (hh:dm gl h J w) {b:Builtin} {ts:List TypeId} {ty:TypeId} {cs:Array Bool} {xs:List AV} {us:List Value} (hx:bX J (Own h J) w xs us)(hok:qH P h b ts xs):
  ∃v,(builtin b ts.toArray ty cs us.toArray).run P w= .ok (.value v) w∧aQ J (Own h J) w (yl h b xs) v:=by
 have hl:=hx.1;unfold qH at hok;split at hok
 ·rename_i x;split at hok
  ·rename_i t;obtain⟨u,rfl⟩:=List.length_eq_one_iff.1 (hl.symm.trans rfl);obtain⟨v,h1,h2⟩:=NJ (P:=P) (ty:=ty) hh (hx.2 0 x u rfl rfl) hok;exact⟨v,by simp only [builtin,Sem.run_bind];rw [show (Builtin.len_ [t].toArray ty [u].toArray).run P w= .ok v w from h1];rfl,h2⟩
  ·exact hok.elim
 all_goals first
  | exact hok.elim
  | skip
 ·rename_i k x k' y
  match us,hl with
  | [u1,u2],_=>
   have r1:=hx.2 0 _ u1 rfl rfl;have r2:=hx.2 1 _ u2 rfl rfl;cases r1;cases r2
   refine⟨.int k (min x y),?_,.int _ _⟩;simp only [builtin,Builtin.min_,List.foldlM_cons,List.foldlM_nil,Builtin.min2,Sem.run_bind,Sem.run_pure,Result.andThen_ok,Y6]
 ·rename_i k x k' y
  match us,hl with
  | [u1,u2],_=>
   have r1:=hx.2 0 _ u1 rfl rfl;have r2:=hx.2 1 _ u2 rfl rfl;cases r1;cases r2
   refine⟨.int k (max x y),?_,.int _ _⟩;simp only [builtin,Builtin.max_,List.foldlM_cons,List.foldlM_nil,Builtin.max2,Sem.run_bind,Sem.run_pure,Result.andThen_ok,Y5]
 ·rename_i k x k' y k'' z
  match us,hl with
  | [u1,u2,u3],_=>
   have r1:=hx.2 0 _ u1 rfl rfl;have r2:=hx.2 1 _ u2 rfl rfl;have r3:=hx.2 2 _ u3 rfl rfl;cases r1;cases r2;cases r3
   refine⟨.int k (min (min x y) z),?_,.int _ _⟩;simp only [builtin,Builtin.min_,List.foldlM_cons,List.foldlM_nil,Builtin.min2,Sem.run_bind,Sem.run_pure,Result.andThen_ok,Y6]
 ·rename_i k x k' y k'' z
  match us,hl with
  | [u1,u2,u3],_=>
   have r1:=hx.2 0 _ u1 rfl rfl;have r2:=hx.2 1 _ u2 rfl rfl;have r3:=hx.2 2 _ u3 rfl rfl;cases r1;cases r2;cases r3
   refine⟨.int k (max (max x y) z),?_,.int _ _⟩;simp only [builtin,Builtin.max_,List.foldlM_cons,List.foldlM_nil,Builtin.max2,Sem.run_bind,Sem.run_pure,Result.andThen_ok,Y5]
end
end Go.Abs
end
section
namespace Go.Abs
open Go
section
variable {P : Program} {gl : aR} {J : List eF} {h : ak} {w : World} {O : Nat → Prop} {fr : aP} {N : Nat}
theorem ol {J:List eF} {O:Nat→Prop} {w:World} {a:Act}: ∀(l:List Operand),(∀x∈l,aQ J O w (ev gl fr x) (a.eval x))→(∀x∈l,(ev gl fr x).gd=true)→bX J O w (l.map fun x=>(ev gl fr x).core) (l.map a.eval)
 | [],_,_=> .nil
 | x::l,h1,h2=>bX.cons ((h1 x (by simp)).core (h2 x (by simp))) (ol l (fun y hy=>h1 y (by simp [hy])) (fun y hy=>h2 y (by simp [hy])))
theorem Ah {J:List eF} {O:Nat→Prop} {w:World} {a:Act}: ∀(l:List (Nat×Operand)),(∀p∈l,aQ J O w (ev gl fr p.2) (a.eval p.2))→(∀p∈l,(ev gl fr p.2).gd=true)→GD J O w (l.map fun p=>(p.1,(ev gl fr p.2).core)) (l.map fun p=>(p.1,a.eval p.2))
 | [],_,_=>trivial
 | (i,x)::l,h1,h2=>⟨rfl,(h1 (i,x) (by simp)).core (h2 (i,x) (by simp)),Ah l (fun y hy=>h1 y (by simp [hy])) (fun y hy=>h2 y (by simp [hy]))⟩
theorem RI {o:Oper} {a:Act} (hh:dm gl h J w)(hr: ∀x∈o.op.operands,aQ J (Own h J) w (ev gl fr x) (a.eval x))(hok:Vy P gl fr h o.op):
  ∃v,(execOp a.eval o).run P w= .ok (.value v) w∧aQ J (Own h J) w (Gy P gl fr h o.op) v:=by
 have of1: ∀ {s:Sem Value} {x:AV},kN P J (Own h J) w s x→ ∃v,(s>>=fun v=>(pure (Next.value v):Sem Next)).run P w= .ok (.value v) w∧aQ J (Own h J) w x v:=by
  rintro s x ⟨v,h1,h2⟩;exact⟨v,by simp [h1],h2⟩
 unfold execOp;cases hop:o.op <;> simp only [hop] at hok hr ⊢ <;> simp only [Vy] at hok <;> simp only [Gy]
 case move x=>exact⟨_,rfl,(hr x (by simp [Op.operands])).core hok⟩
 case assign x=>exact⟨_,rfl,(hr x (by simp [Op.operands])).core hok⟩
 case pick c x y=>
  obtain⟨hc,hok⟩:=hok;have rc:=(hr c (by simp [Op.operands])).core hc;have rx:=hr x (by simp [Op.operands]);have ry:=hr y (by simp [Op.operands]);unfold N8 at hok;unfold Tn;split at hok
  ·rename_i t e1;rw [e1] at rc;generalize a.eval c=vc at*;cases rc
   cases t with
   | true=>
    obtain⟨h1,h2⟩:=hok.1 rfl;have r:=rx.core h1;generalize (ev gl fr x).core=X at r h2 ⊢;cases X <;> simp [yE] at h2
    generalize a.eval x=vx at*;cases r
    exact⟨_,by simp [asBool,AV.bval],.bool _⟩
   | false=>
    obtain⟨h1,h2⟩:=hok.2 rfl;have r:=ry.core h1;generalize (ev gl fr y).core=X at r h2 ⊢;cases X <;> simp [yE] at h2
    generalize a.eval y=vy at*;cases r
    exact⟨_,by simp [asBool,AV.bval],.bool _⟩
  ·exact hok.elim
 case build t parts=>
  obtain⟨hg,hok⟩:=hok;have hm: ∀p∈parts.toList,aQ J (Own h J) w (ev gl fr p.2) (a.eval p.2):=fun p hp=>hr p.2 (by
   simp only [Op.operands,List.mem_toArray];exact List.mem_map.2 ⟨p,hp,rfl⟩)
  have:=Ah (a:=a) (J:=J) (O:=Own h J) (w:=w) parts.toList hm hg;exact of1 (Ji (qs:=parts.map fun (i,x)=>(i,a.eval x)) (by simpa using this) hok)
 case load t x=>
  obtain⟨hg,ht,hok⟩:=hok;exact of1 (Lr hh ((hr x (by simp [Op.operands])).core hg) ht hok)
 case nilCheck x=>
  obtain⟨hg,hok⟩:=hok;have r:=(hr x (by simp [Op.operands])).core hg;unfold SY at hok;split at hok
  ·rename_i e;rw [e] at r ⊢;generalize a.eval x=v at*;cases r
   exact⟨_,rfl,.ptr _ _ _ _ ‹_›⟩
  ·rename_i f first caps e
   rw [e] at r ⊢;generalize a.eval x=v at*;cases r
   exact⟨_,rfl,.fn _ _ _ _ _ ‹_› ‹_› ‹_› ‹_›⟩
  ·exact hok.elim
 case binOp op t x y yt=>
  obtain⟨hx,hy,hok⟩:=hok;exact of1 (MX ((hr x (by simp [Op.operands])).core hx) ((hr y (by simp [Op.operands])).core hy) hok)
 case unOp op t x=>
  obtain⟨hx,hok⟩:=hok;exact of1 (P8 ((hr x (by simp [Op.operands])).core hx) hok)
 case convert src dst x=>
  obtain⟨hx,hok⟩:=hok;exact of1 (Ku ((hr x (by simp [Op.operands])).core hx) hok)
 case makeInterface t x=>
  obtain⟨hx,ht,hok⟩:=hok;obtain⟨d,i,hd,hi,e⟩:=dX ht;refine of1 ⟨.iface t (a.eval x),?_,.iface t _ _ ((hr x (by simp [Op.operands])).core hx)⟩;rw [e] at hok;simp only [Instr.makeInterface,Sem.run_bind,run_underlying hd,Result.andThen_ok];cases d <;> first | rfl | (simp [sW,Js] at hok)
 case makeFunc f first caps=>
  obtain⟨h1,h2⟩:=hok;have r1:=ol (a:=a) (J:=J) (O:=Own h J) (w:=w) (gl:=gl) (fr:=fr) first.toList (fun x hx=>hr x (Array.mem_append.2 (.inl (by simpa using hx)))) h1;have r2:=ol (a:=a) (J:=J) (O:=Own h J) (w:=w) (gl:=gl) (fr:=fr) caps.toList (fun x hx=>hr x (Array.mem_append.2 (.inr (by simpa using hx)))) h2;refine of1 ⟨.func f (first.map a.eval) (caps.map a.eval),rfl,?_⟩;have e1:first.map a.eval=(first.toList.map a.eval).toArray:=by rw [←Array.toList_map,Array.toArray_toList]
  have e2:caps.map a.eval=(caps.toList.map a.eval).toArray:=by rw [←Array.toList_map,Array.toArray_toList]
  rw [e1,e2];exact .fn f _ _ _ _ r1.1 r2.1 r1.2 r2.2
 case slice t x lo hi mx=>
  obtain⟨hx,rfl,hlo,hhi,hok⟩:=hok;have rx:=(hr x (by simp [Op.operands])).core hx;refine of1 (J9 (lo:=lo.map a.eval) (hi:=hi.map a.eval) hh rx ?_ ?_ ?_ ?_ hok)
  ·intro v hv
   cases lo with
   | none=>simp at hv
   | some y=>
    simp only [Option.map_some,Option.mem_def,Option.some.injEq] at hv;subst hv;simp only [Option.map_some,xy] at hlo;obtain⟨k,hk⟩:=xx ((hr y (by simp [Op.operands])).core hlo.1) hlo.2;exact⟨k,_,hk,rfl⟩
  ·intro hn;cases lo <;> simp_all
  ·intro v hv
   cases hi with
   | none=>simp at hv
   | some y=>
    simp only [Option.map_some,Option.mem_def,Option.some.injEq] at hv;subst hv;simp only [Option.map_some,xy] at hhi;obtain⟨k,hk⟩:=xx ((hr y (by simp [Op.operands])).core hhi.1) hhi.2;exact⟨k,_,hk,rfl⟩
  ·intro hn;cases hi <;> simp_all
 case fieldAddr s x f=>
  obtain⟨hx,h1,h2,h3,hok⟩:=hok;exact of1 (zT ((hr x (by simp [Op.operands])).core hx) h1 h2 h3 hok)
 case field s x f=>
  obtain⟨hx,h1,h3,hok⟩:=hok;exact of1 (Jp ((hr x (by simp [Op.operands])).core hx) h1 h3 hok)
 case indexAddr t x ix=>
  obtain⟨hx,hy,h1,h2,hok⟩:=hok;exact of1 (zW hh ((hr x (by simp [Op.operands])).core hx) ((hr ix (by simp [Op.operands])).core hy) h1 h2 hok)
 case index t x ix=>
  obtain⟨hx,hy,h1,h2,hok⟩:=hok;exact of1 (Jv ((hr x (by simp [Op.operands])).core hx) ((hr ix (by simp [Op.operands])).core hy) h1 h2 hok)
 case lookup t x ix ok=>
  obtain⟨hx,hy,hok⟩:=hok;exact of1 (Gd hh ok ((hr x (by simp [Op.operands])).core hx) ((hr ix (by simp [Op.operands])).core hy) hok)
 case extract x i=>
  obtain⟨hx,hok⟩:=hok;exact of1 (Dw ((hr x (by simp [Op.operands])).core hx) hok)
end
end Go.Abs
end
end
end
