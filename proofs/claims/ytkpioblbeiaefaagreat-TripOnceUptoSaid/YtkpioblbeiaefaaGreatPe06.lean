/- Part 6 of the lemmas below the statements of this seat: AbsBridge, TollShape, TollNet, Name. -/
import Derived.Test.YtkpioblbeiaefaaGreatPe05
import Derived.ReadAgain
import Derived.ChangeArms
import Derived.ChangeSame
import Derived.RowKit
import Derived.OpenShut
import Derived.ChangeCalls
set_option linter.unusedSectionVars false
set_option linter.unusedVariables false
set_option linter.unusedSimpArgs false
set_option linter.unnecessarySimpa false
set_option maxRecDepth 100000
section
namespace Go.Abs
open Go Go.ChangeShapes Go.WideShapes Go.RowKit
inductive Sh where
 | bool | int (k:IntKind) | str | sl (e:Sh) | st (f:Sh) | none | cons (a r:Sh)
def Sh.n:Sh→Nat
 | .st f=>f.n
 | .none=>0
 | .cons a r=>a.n+r.n
 | _=>1
def Sh.ok:Sh→List AV→Prop
 | .bool,es=> ∃b,es=[.bool b]
 | .int k,es=> ∃n,es=[.int k n]∧(Lit.int k n).wf=true
 | .str,es=> ∃s:List UInt8,es=[.str s]∧s.length≤maxLen
 | .sl e,es=> ∃l:List (List AV),es=[.ro l]∧l.length≤maxLen∧ ∀x∈l,e.ok x
 | .st f,es=>f.ok es
 | .none,es=>es=[]
 | .cons a r,es=> ∃x y,es=x++y∧a.ok x∧r.ok y
def Sh.isTy:Sh→Bool
 | .none | .cons _ _=>false
 | _=>true
def Sh.is (P:Program):Sh→TypeId→List Field→Nat→Bool
 | .bool,t,_,_=>match P.underlying t with | some .bool=>true | _=>false
 | .int k,t,_,_=>match P.underlying t with | some (.int k')=>decide (k'=k) | _=>false
 | .str,t,_,_=>match P.underlying t with | some .string=>true | _=>false
 | .sl e,t,_,_=>match P.underlying t with | some (.slice u)=>e.is P u [] 0 && decide (e.n=P.cellsOf u) && decide (0<e.n) | _=>false
 | .st f,t,_,_=>match P.underlying t with | some (.struct fs)=> !f.isTy && f.is P 0 fs.toList 0 && decide (f.n=P.cellsOf t) | _=>false
 | .none,_,fs,_=>fs.isEmpty
 | .cons a r,_,fs,o=>match fs with
  | f::fs'=>decide (f.offset=o) && a.is P f.type [] 0 && decide (a.n=P.cellsOf f.type) && r.is P 0 fs' (o+a.n) && a.isTy && !r.isTy
  | []=>false
def yz (J:List dH)(O:Nat→Prop)(w:World)(es:List AV)(cs:List Value):Prop:=
 es.length=cs.length∧ ∀(i:Nat) (x:AV) (v:Value),es[i]? =some x→cs[i]? =some v→aJ J O w x v∧v.oneCell'=true
theorem yz.one {J:List dH} {O:Nat→Prop} {w:World} {x:AV} {v:Value} (h:aJ J O w x v)(h1:v.oneCell'=true):yz J O w [x] [v]:=by
 refine⟨rfl,fun i y u hy hu=> ?_⟩
 cases i with
 | zero=>simp at hy hu;subst hy;subst hu;exact⟨h,h1⟩
 | succ i=>simp at hy
theorem yz.append {J:List dH} {O:Nat→Prop} {w:World} {a b:List AV} {c d:List Value} (h:yz J O w a c)(h':yz J O w b d):yz J O w (a++b) (c++d):=by
 refine⟨by simp [h.1,h'.1],fun i x v hx hv=> ?_⟩;by_cases hi:i<a.length
 ·rw [zC hi] at hx;rw [zC (by rw [←h.1];exact hi)] at hv;exact h.2 i x v hx hv
 ·rw [zD (by omega)] at hx;rw [zD (by rw [←h.1];omega),←h.1] at hv;exact h'.2 _ x v hx hv
section
variable {H : Type} {enc : TypeId × Value → H} {P : Program} {w : World} {O : Nat → Prop} {J : List dH}
theorem qY {α β:Type} {f:α→Option β} {x:α} {l:List α} {r:List β} (h:(x::l).mapM f=some r): ∃y r',f x=some y∧l.mapM f=some r'∧r=y::r':=by
 rw [List.mapM_cons] at h
 cases hx:f x with
 | none=>simp [hx] at h
 | some y=>
  cases hl:l.mapM f with
  | none=>simp [hx,hl] at h
  | some r'=>
   simp [hx,hl] at h;exact⟨y,r',rfl,rfl,h.symm⟩
theorem trod_struct' {t:TypeId} {fs:Array Field} {fuel:Nat} {cs:List Value} {x:DataW H×List MemPlace} (ht:P.underlying t=some (.struct fs))(h:DataW.trod enc P w 0 (fun _=>true) true fuel t cs=some x):
  ∃(xs:List (DataW H×List MemPlace)) (n:Nat),cs.length=P.cellsOf t∧(fs.toList.mapM fun f=>DataW.trod enc P w 0 (fun _=>true) true n f.type ((cs.drop f.offset).take (P.cellsOf f.type)))=some xs:=by
 cases fuel with
 | zero=>simp [DataW.trod] at h
 | succ n=>
  unfold DataW.trod at h;rw [ht] at h;split at h <;> simp_all
  obtain⟨hl,xs,hp,hd⟩:=h;exact⟨xs,n,hp⟩
theorem KQ (hO: ∀r,r<w.heap.size→ ¬O r)(sh:Sh):
  (∀(t:TypeId) (cs:List Value) (fuel:Nat) (x:DataW H×List MemPlace),sh.isTy=true→sh.is P t [] 0=true→DataW.trod enc P w 0 (fun _=>true) true fuel t cs=some x→
   ∃es,sh.ok es∧yz J O w es cs∧es.length=sh.n)∧
  (∀(fs:List Field) (o:Nat) (cs:List Value) (n:Nat) (xs:List (DataW H×List MemPlace)),sh.is P 0 fs o=true→sh.isTy=false→
   (fs.mapM fun f=>DataW.trod enc P w 0 (fun _=>true) true n f.type ((cs.drop f.offset).take (P.cellsOf f.type)))=some xs→cs.length=o+sh.n→
   ∃es,sh.ok es∧yz J O w es (cs.drop o)∧es.length=sh.n):=by
 induction sh with
 | bool=>
  refine⟨fun t cs fuel x _ hi h=> ?_,fun _ _ _ _ _ _ h=>by simp [Sh.isTy] at h⟩;simp only [Sh.is] at hi;split at hi <;> try simp at hi
  rename_i ht;obtain⟨b,rfl,_⟩:=DataW.trod_bool ht h;exact⟨_,⟨b,rfl⟩,.one (.bool b) rfl,rfl⟩
 | int k=>
  refine⟨fun t cs fuel x _ hi h=> ?_,fun _ _ _ _ _ _ h=>by simp [Sh.isTy] at h⟩;simp only [Sh.is] at hi;split at hi <;> try simp at hi
  rename_i ht;subst hi;obtain⟨n,rfl,_,hw⟩:=DataW.trod_int ht h;exact⟨_,⟨n,rfl,hw⟩,.one (.int _ n) rfl,rfl⟩
 | str=>
  refine⟨fun t cs fuel x _ hi h=> ?_,fun _ _ _ _ _ _ h=>by simp [Sh.isTy] at h⟩;simp only [Sh.is] at hi;split at hi <;> try simp at hi
  rename_i ht;obtain⟨s,rfl,_,hw⟩:=DataW.trod_string ht h;refine⟨_,⟨s.data.toList,rfl,by rw [Array.length_toList];exact hw⟩,.one ?_ rfl,rfl⟩;exact aJ.str _
 | sl e ih=>
  refine⟨fun t cs fuel x _ hi h=> ?_,fun _ _ _ _ _ _ h=>by simp [Sh.isTy] at h⟩;simp only [Sh.is] at hi;split at hi <;> try simp at hi
  rename_i u ht;obtain⟨⟨hi,hn⟩,hpos⟩:=hi;have hty:e.isTy=true:=by
   cases e <;> simp [Sh.isTy]
   ·simp [Sh.n] at hpos
   ·simp [Sh.is] at hi
  rcases DataW.trod_slice ht h with⟨rfl,_⟩ | ⟨a,len,cap,elems,rest,n,rfl,rfl,_,hb,hl,hc,hlen,he,_,_⟩
  ·exact⟨_,⟨[],rfl,Nat.zero_le _,by simp⟩,.one .roNil rfl,rfl⟩
  ·have key: ∀i:Fin len,∃es:List AV,e.ok es∧ ∃cs,w.cells? 0 (a.add (i*P.cellsOf u)) (P.cellsOf u)=some cs∧yz J O w es cs∧es.length=e.n:=by
    intro i;have h1:=he i i.2;rw [zB (by rw [hlen];exact i.2)] at h1;obtain⟨cs,hc1,hc2⟩:=Option.bind_eq_some_iff.1 h1;obtain⟨es,p,q,r⟩:=ih.1 _ _ _ _ hty hi hc2;exact⟨es,p,cs,hc1,q,r⟩
   obtain⟨g,hg⟩:=Classical.axiomOfChoice key
   let es:=(List.finRange len).map g
   have hes:es.length=len:=by simp [es]
   have hget: ∀(i:Nat) (x:List AV),es[i]? =some x→ ∃hi:i<len,x=g ⟨i,hi⟩:=by
    intro i x hx;have hi:i<len:=by
     rcases zN i len with h | h
     ·exact h
     ·simp [List.getElem?_eq_none (by omega:es.length≤i)] at hx
    refine⟨hi,?_⟩;simp [es,hi] at hx;exact hx.symm
   have hcell: ∀(i:Nat) (x:List AV) (c:Nat) (y:AV),es[i]? =some x→x[c]? =some y→ ∃v,w.cell? (a.add (i*e.n+c))=some v∧aJ J O w y v∧v.oneCell'=true:=by
    intro i x c y hx hy;obtain⟨hi,rfl⟩:=hget i x hx;obtain⟨_,cs,hcs,⟨q1,q2⟩,r⟩:=hg ⟨i,hi⟩;obtain⟨_,s1,s2⟩:=World.cells?_some hcs;have hcl:c<(g ⟨i,hi⟩).length:=by
     rcases zN c (g ⟨i,hi⟩).length with h | h
     ·exact h
     ·simp [List.getElem?_eq_none h] at hy
    obtain⟨v,hv⟩: ∃v,cs[c]? =some v:=⟨cs[c]'(by omega),zB (by omega)⟩;have h3:=s2 c (by omega);rw [hv,←hn] at h3;refine⟨v,?_,q2 c y v hy hv⟩;rw [←h3,show (a.add (i*e.n)).add c=a.add (i*e.n+c) from add_add' _ _ _]
   refine⟨[.ro es],⟨es,rfl,by omega,fun x hx=> ?_⟩,.one ?_ rfl,rfl⟩
   ·obtain⟨i,hi⟩:=List.getElem?_of_mem hx;obtain⟨hi',rfl⟩:=hget i x hi;exact (hg ⟨i,hi'⟩).1
   ·rw [←hes];refine aJ.ro es a e.n cap (fun i c=>(w.cell? (a.add (i*e.n+c))).getD undef) (by omega) hpos ?_ ?_ ?_ ?_ ?_
    ·by_cases h0:es=[]
     ·exact .inl h0
     ·right
      have h0':0<len:=by
       rcases Nat.eq_zero_or_pos len with h | h
       ·exact absurd (List.length_eq_zero_iff.1 (hes.trans h)) h0
       ·exact h
      obtain⟨_,cs,hcs,_⟩:=hg ⟨0,h0'⟩;have:=World.cells?_block hcs (by omega);have hbl:a.block<w.heap.size:=by simpa [add_block] using this
      exact⟨hbl,hO _ hbl⟩
    ·intro i x hx;obtain⟨hi,rfl⟩:=hget i x hx;exact (hg ⟨i,hi⟩).2.choose_spec.2.2
    ·intro i x c y hx hy;obtain⟨v,hv,_⟩:=hcell i x c y hx hy;simp [hv]
    ·intro i x c y hx hy;obtain⟨v,hv,_,h1⟩:=hcell i x c y hx hy;simp [hv,h1]
    ·intro i x c y hx hy;obtain⟨v,hv,h1,_⟩:=hcell i x c y hx hy;simp [hv,h1]
 | st f ih=>
  refine⟨fun t cs fuel x _ hi h=> ?_,fun _ _ _ _ _ _ h=>by simp [Sh.isTy] at h⟩;simp only [Sh.is] at hi;split at hi <;> try simp at hi
  rename_i fs ht;obtain⟨⟨hty,hi⟩,hn⟩:=hi;obtain⟨xs,n,hl,hm⟩:=trod_struct' ht h;obtain⟨es,p,q,r⟩:=ih.2 fs.toList 0 cs n xs hi hty hm (by omega);exact⟨es,p,by simpa using q,r⟩
 | none=>
  refine⟨fun _ _ _ _ h=>by simp [Sh.isTy] at h,fun fs o cs n xs hi _ hm hl=> ?_⟩;refine⟨[],rfl,⟨?_,by simp⟩,rfl⟩;simp [Sh.n] at hl;simp [hl]
 | cons a r iha ihr=>
  refine⟨fun _ _ _ _ h=>by simp [Sh.isTy] at h,fun fs o cs n xs hi _ hm hl=> ?_⟩
  cases fs with
  | nil=>simp [Sh.is] at hi
  | cons f fs'=>
   simp only [Sh.is,Bool.and_eq_true,decide_eq_true_eq,Bool.not_eq_true'] at hi;obtain⟨⟨⟨⟨⟨ho,ha⟩,hn⟩,hr⟩,hta⟩,htr⟩:=hi;obtain⟨y,ys,hy,hys,rfl⟩:=qY hm;simp only [Sh.n] at hl;obtain⟨e1,p1,q1,r1⟩:=iha.1 _ _ _ _ hta ha hy;obtain⟨e2,p2,q2,r2⟩:=ihr.2 fs' (o+a.n) cs n ys hr htr hys (by omega);refine⟨e1++e2,⟨e1,e2,rfl,p1,p2⟩,?_,by simp [Sh.n,r1,r2]⟩;have:=q1.append q2;rw [ho,←hn,←List.drop_drop,List.take_append_drop] at this;exact this
def x9 (sh:Sh)(x:AV):Prop:=match sh with | .st f=> ∃es,x= .agg es∧f.ok es | sh=>sh.ok [x]
def q9:List Sh→List AV→Prop
 | [],xs=>xs=[]
 | sh::shs,xs=> ∃x r,xs=x::r∧x9 sh x∧q9 shs r
def mh (P:Program):List Sh→List TypeId→Bool
 | [],[]=>true
 | sh::shs,t::ts=>sh.isTy && sh.is P t [] 0 && mh P shs ts
 | _,_=>false
theorem okWide_slice {r:Reach} {b0:Nat} {t e:TypeId} {v:Value} (ht:P.underlying t=some (.slice e))(hval:Value.okWide P w r b0 t v):v.oneCell'=true:=by
 cases v <;> simp [Value.okWide,Cell.okWide,Cell.ok,ht] at hval <;> rfl
theorem P5 (hO: ∀r,r<w.heap.size→ ¬O r) {r:Reach} {b0:Nat} (sh:Sh) {t:TypeId} {v:Value} {d:DataW H} {ps:List MemPlace} (hty:sh.isTy=true)(hi:sh.is P t [] 0=true)
  (hval:Value.okWide P w r b0 t v) (hd:DataW.Trod enc P w 0 (fun _=>true) true t v d ps): ∃x,x9 sh x∧aJ J O w x v:=by
 obtain⟨fuel,hf⟩:=hd;obtain⟨es,p,q,hn⟩:=(KQ (J:=J) hO sh).1 _ _ _ _ hty hi hf;have one:sh.n=1→v.oneCell'=true→sh.ok es→ ∃x,sh.ok [x]∧aJ J O w x v:=by
  intro h1 h2 h3;rw [h1] at hn;obtain⟨x,rfl⟩:=List.length_eq_one_iff.1 hn;have hc:v.cells.toList=[v]:=by cases v <;> simp [Value.oneCell'] at h2 <;> rfl
  rw [hc] at q;exact⟨x,h3,(q.2 0 x v rfl rfl).1⟩
 cases sh with
 | bool=>
  simp only [Sh.is] at hi;split at hi <;> try simp at hi
  rename_i ht;refine one rfl ?_ p;cases v <;> simp [Value.okWide,Cell.okWide,Cell.ok,ht] at hval <;> rfl
 | int k=>
  simp only [Sh.is] at hi;split at hi <;> try simp at hi
  rename_i ht;refine one rfl ?_ p;cases v <;> simp [Value.okWide,Cell.okWide,Cell.ok,ht] at hval <;> rfl
 | str=>
  simp only [Sh.is] at hi;split at hi <;> try simp at hi
  rename_i ht;refine one rfl ?_ p;cases v <;> simp [Value.okWide,Cell.okWide,Cell.ok,ht] at hval <;> rfl
 | sl e=>
  simp only [Sh.is] at hi;split at hi <;> try simp at hi
  rename_i u ht;exact one rfl (okWide_slice ht hval) p
 | st f=>
  simp only [Sh.is] at hi;split at hi <;> try simp at hi
  rename_i fs ht;simp only [Value.okWide,ht] at hval;obtain⟨cs,rfl,_,_⟩:=hval;refine⟨.agg es,⟨es,rfl,p⟩,?_⟩;have:(Value.agg cs)= .agg cs.toList.toArray:=by simp
  rw [this];refine .agg es cs.toList q.1 ?_ (fun i x v hx hv=>(q.2 i x v hx hv).1);intro v hv;obtain⟨i,hi⟩:=List.getElem?_of_mem hv;have hlt:i<es.length:=by
   rcases zN i es.length with h | h
   ·exact h
   ·rw [q.1] at h;simp [Value.cells] at h;simp [Nat.not_lt.2 h] at hi
  exact (q.2 i _ v (zB hlt) hi).2
 | none=>simp [Sh.isTy] at hty
 | cons a b=>simp [Sh.isTy] at hty
theorem Eu (hO: ∀r,r<w.heap.size→ ¬O r) {r:Reach} {b0:Nat}: ∀(shs:List Sh) {ts:List TypeId} {vs:List Value} {ds:List (DataW H)} {ps:List MemPlace},mh P shs ts=true→
  (∀(j:Nat) t v,ts[j]? =some t→vs[j]? =some v→Value.okWide P w r b0 t v)→DataW.TrodAll enc P w 0 (fun _=>true) true ts vs ds ps→
  ∃xs,q9 shs xs∧bC J O w xs vs
 | [],[],vs,ds,ps,_,_,h=>by
  obtain⟨rfl,rfl,rfl⟩:=trodAll_nil h;exact⟨[],rfl,.nil⟩
 | sh::shs,t::ts,vs,ds,ps,hi,hval,h=>by
  obtain⟨v,vs1,d,ds1,a,b,rfl,rfl,rfl,h1,h2⟩:=trodAll_cons h;simp only [mh,Bool.and_eq_true] at hi;obtain⟨x,p,q⟩:=P5 (J:=J) hO sh hi.1.1 hi.1.2 (hval 0 t v rfl rfl) h1;obtain⟨xs,p',q'⟩:=Eu hO shs hi.2 (fun j t v ht hv=>hval (j+1) t v (by simpa using ht) (by simpa using hv)) h2;exact⟨x::xs,⟨x,xs,rfl,p,p'⟩,.cons q q'⟩
 | [],_::_,_,_,_,hi,_,_=>by simp [mh] at hi
 | _::_,[],_,_,_,hi,_,_=>by simp [mh] at hi
end
section
variable {H : Type} {enc : TypeId × Value → H} {P : Program} {W W' : World}
theorem Bw (K:Kids P (· <P.types.size))(hz: ∀t e,t<P.types.size→P.underlying t=some (.slice e)→0<P.cellsOf e)(hold: ∀r,r<W.heap.size→W'.heap[r]? =W.heap[r]?) {sp:Nat→Bool}:
  ∀ {ts:List TypeId} {vs:List Value} {ds:List (DataW H)} {ps:List MemPlace},(∀t∈ts,t<P.types.size)→DataW.TrodAll enc P W 0 (fun _=>true) true ts vs ds ps→(∀p∈ps,sp p.block=true)→
   DataW.TrodAll enc P W' 0 sp true ts vs ds ps:=by
 intro ts vs ds ps hT h hs;refine DataW.TrodAll.respare K hz hT ?_ hs;clear hs
 revert vs ds ps hT
 induction ts with
 | nil=>
  intro vs ds ps _ h;obtain⟨rfl,rfl,rfl⟩:=trodAll_nil h;rfl
 | cons t ts ih=>
  intro vs ds ps hT h;obtain⟨v,vs1,d,ds1,a,b,rfl,rfl,rfl,⟨n,h1⟩,h2⟩:=trodAll_cons h;refine⟨a,b,⟨n,DataW.trod_carry n _ _ _ h1 fun p hp=> ?_⟩,ih (fun t ht=>hT t (.tail _ ht)) h2,rfl⟩;have hlt:=DataW.trod_lt n _ _ _ h1 p hp;have:=hold _ hlt
  cases p with
  | cell b off=>exact World.cell?_of_block this
  | map b=>exact this
theorem vS {gl:aM} {f:FuncId} {fn:Func} {s:ChangeSpec} {apart fresh handsOn again:Bool} {tb:TypeId} (shs:List Sh)
  (K:Kids P (· <P.types.size)) (hz: ∀t e,t<P.types.size→P.underlying t=some (.slice e)→0<P.cellsOf e)
  (hsh:mh P shs fn.params.toList=true) (hT: ∀t∈fn.params.toList,t<P.types.size) (hr:fn.resultTypes= #[tb]) (hb:P.underlying tb=some .bool)
  (hvars:s.vars=[]) (hfn: ∀ds:List (DataW H),ds.length=fn.params.toList.length→s.fn H ds= { results:=[.lit (.bool true)],args:=ds })
  (hgl: ∀g cs,gl g=some cs→aJ [] (Own [] []) W (.rop [cs] 0 0) (.pointer (some ⟨g,0,none⟩)))
  (hlaw: ∀xs,q9 shs xs→aa P gl f xs [] fun x h'=>x= .bool true)
  (base:Nat) (args:Array Value) (ds gs:List (DataW H)) (before:List MemPlace)
  (hval: ∀(j:Nat) t v,fn.params[j]? =some t→args[j]? =some v→Value.okWide P W .any base t v)
  (hW:DataW.Whole enc P fn.params.toList s.vars apart W args.toList ds gs before):
  Calls P f args W fun e W'=> ∃v,e= .returned v∧s.post enc P fn apart fresh handsOn again W args v W':=by
 have hW0:=hW;obtain⟨p,q,hA,hV,rfl,hfz,hnd⟩:=hW;have hO: ∀r,r<W.heap.size→ ¬Own [] [] r:=by rintro r _ ⟨b,k,o,h,_⟩;simp at h
 rw [hvars] at hV;obtain⟨rfl,rfl⟩:=trodVars_none hV;obtain⟨xs,hx,hv⟩:=Eu (J:=[]) hO shs hsh (fun j t v ht hv=>hval j t v (by simpa using ht) (by simpa using hv)) hA;have hh:bI gl [] [] W:=⟨rfl,by intro b b' k;simp,by intro b k;simp,by intro b k;simp,hgl⟩;have hc:=(hlaw xs hx).2 [] W args.toList hh hv;simp only [Array.toArray_toList] at hc;refine Calls.mono' hc ?_;rintro e W' ⟨x,v,J',h',rfl,_,hxv,he,rfl⟩;obtain rfl:v= .bool true:=by cases hxv;rfl
 refine⟨_,rfl,?_⟩;have hold: ∀r,r<W.heap.size→W'.heap[r]? =W.heap[r]? :=fun r hr=>(he.keep r hr (hO r hr)).1;have hlen:=(trodAll_length hA).2;have hfn':=hfn (ds++[]) (by simpa using hlen);rw [List.append_nil] at hfn' hW0;have hlt: ∀p'∈p,p'.block<W.heap.size:=fun p' hp=>DataW.TrodAll.lt hA p' hp;have hkept: ∀may,W.keptBut W' may:=by
  intro may;refine⟨he.os,he.output,fun i hi=> ?_⟩;rw [hold i hi]
  cases W.heap[i]? with
  | none=>rfl
  | some o=>cases o <;> simp
 have hfz': ∀p'∈p,∀b off,p'= .cell b off→W'.frozen? ⟨b,off,none⟩=W.frozen? ⟨b,off,none⟩:=by
  rintro p' hp b off rfl;have:=hold b (hlt _ hp);simp [World.frozen?,this]
 have hagain: ∀sp:Nat→Bool,(∀p'∈p,sp p'.block=true)→DataW.TrodAll enc P W' 0 sp true fn.params.toList args.toList ds p:=fun sp hsp=>Bw K hz hold hT hA hsp;have hres: ∀(b:Nat) (sp:Nat→Bool) (hd:Bool),DataW.TrodAll enc P W' b sp hd fn.resultTypes.toList ((Value.bool true).resultList fn.resultTypes.size) [.lit (.bool true)] []:=by
  intro b sp hd;rw [hr];exact trodAll_cons_mk (shut_bool hb _) trodAll_mk0
 refine⟨ds,[],p,[],p,[],hW0,?_,?_,?_,?_,fun _=> ?_⟩
 ·rw [List.append_nil,hfn'];exact hres _ _ _
 ·rw [List.append_nil,hfn'];exact hagain _ fun p' hp=>by simpa using hlt p' hp
 ·rw [List.append_nil,hfn',hvars];rfl
 ·exact hkept _
 ·refine⟨?_,[.lit (.bool true)]++ds,[],[]++p++[],⟨[]++p,[],trodAll_append (hagain (fun _=>true) fun _ _=>rfl) (hres 0 (fun _=>true) true),by rw [hvars];rfl,rfl,?_,?_⟩,?_⟩
  ·exact ok_one hr rfl (okWide_bool_mk hb _)
  ·intro b off hp;have hp':MemPlace.cell b off∈p:=by simpa using hp
   rw [hfz' _ hp' b off rfl];exact hfz b off (by simpa using hp')
  ·intro ha;simpa using hnd ha
  ·intro p' hp _;simpa using hp
end
end Go.Abs
end
section
namespace Go.Toll
open Go Go.Abs
def BL:Sh→List Value
 | .bool=>[.bool false]
 | .int k=>[.int k 0]
 | .str=>[.string ⟨#[]⟩]
 | .sl _=>[.slice none 0 0]
 | .st f=>BL f
 | .none=>[]
 | .cons a r=>BL a++BL r
def PO:Sh→Value
 | .st f=> .agg (BL f).toArray
 | s=>(BL s).headD undef
def VQ (n:Int):Prop:= -9223372036854775808≤n∧n≤9223372036854775807
theorem wf_i64 {n:Int} (h:(Lit.int .i64 n).wf=true):VQ n:=by
 simpa [VQ,Lit.wf,IntKind.min,IntKind.max,IntKind.signed,IntKind.bits] using h
theorem Ow {α:Type} {enc:α→List AV} {Q:α→Prop} {l:List (List AV)} (h: ∀e∈l,∃x,e=enc x∧Q x): ∃xs:List α,l=xs.map enc∧ ∀x∈xs,Q x:=by
 induction l with
 | nil=>exact⟨[],rfl,by simp⟩
 | cons e l ih=>
  obtain⟨x,rfl,hx⟩:=h e (by simp);obtain⟨xs,rfl,hxs⟩:=ih fun e he=>h e (by simp [he]);exact⟨x::xs,rfl,by simpa using ⟨hx,hxs⟩⟩
def LF:Sh:= .int .i64
def VN (a b:Sh):Sh:= .st (.cons a (.cons b .none))
def VO (a b c:Sh):Sh:= .st (.cons a (.cons b (.cons c .none)))
def WS (a b c d:Sh):Sh:= .st (.cons a (.cons b (.cons c (.cons d .none))))
theorem JX {a b:Sh} {es:List AV} (h:(VN a b).ok es): ∃x y,es=x++y∧a.ok x∧b.ok y:=by
 obtain⟨x,_,rfl,h1,y,_,rfl,h2,rfl⟩:=h;exact⟨x,y,by simp,h1,h2⟩
theorem JY {a b c:Sh} {es:List AV} (h:(VO a b c).ok es): ∃x y z,es=x++(y++z)∧a.ok x∧b.ok y∧c.ok z:=by
 obtain⟨x,_,rfl,h1,y,_,rfl,h2,z,_,rfl,h3,rfl⟩:=h;exact⟨x,y,z,by simp,h1,h2,h3⟩
theorem Tj {a b c d:Sh} {es:List AV} (h:(WS a b c d).ok es): ∃x y z u,es=x++(y++(z++u))∧a.ok x∧b.ok y∧c.ok z∧d.ok u:=by
 obtain⟨x,_,rfl,h1,y,_,rfl,h2,z,_,rfl,h3,u,_,rfl,h4,rfl⟩:=h;exact⟨x,y,z,u,by simp,h1,h2,h3,h4⟩
theorem CU {es:List AV} (h:LF.ok es): ∃n,es=[.int .i64 n]∧VQ n:=by
 obtain⟨n,rfl,h⟩:=h;exact⟨n,rfl,wf_i64 h⟩
theorem uG {es:List AV} (h:Sh.str.ok es): ∃s:Bytes,es=[.str s]∧s.length≤maxLen:=h
theorem M0 {α:Type} {enc:α→List AV} {Q:α→Prop} {e:Sh} {es:List AV} (h:(Sh.sl e).ok es)(hd: ∀es,e.ok es→ ∃x,es=enc x∧Q x): ∃l:List α,es=[.ro (l.map enc)]∧l.length≤maxLen∧ ∀x∈l,Q x:=by
 obtain⟨l,rfl,hl,h⟩:=h;obtain⟨xs,rfl,hx⟩:=Ow fun e he=>hd e (h e he);exact⟨xs,rfl,by simpa using hl,hx⟩
theorem UA {α:Type} {enc:α→List AV} {Q:α→Prop} {e:Sh} {x:AV} (h:x9 (.sl e) x)(hd: ∀es,e.ok es→ ∃x,es=enc x∧Q x): ∃l:List α,x= .ro (l.map enc)∧l.length≤maxLen∧ ∀x∈l,Q x:=by
 obtain⟨l,h,hl⟩:=M0 h hd;exact⟨l,by simpa using h,hl⟩
theorem Rf {α:Type} {enc:α→List AV} {Q:α→Prop} {f:Sh} {x:AV} (h:x9 (.st f) x)(hd: ∀es,(Sh.st f).ok es→ ∃x,es=enc x∧Q x): ∃y:α,x= .agg (enc y)∧Q y:=by
 obtain⟨es,rfl,h⟩:=h;obtain⟨y,rfl,hy⟩:=hd es h;exact⟨y,rfl,hy⟩
def Tc (n:Nat):Bool:=decide (97≤n) && decide (n≤122)
def SF (n:Nat):Bool:=(decide (48≤n) && decide (n≤57)) || decide (n=45)
def Sy (i:Nat)(n:Nat):Bool:=Tc n || (!decide (i=0) && SF n)
def Cy:Nat→Bytes→Bool
 | _,[]=>true
 | i,c::s=>Sy i c.toNat && Cy (i+1) s
def dZ (s:Bytes):Bool:=decide (0<s.length) && decide (s.length≤12) && Cy 0 s
theorem K4 (i m:Nat):Sy i m=true↔((97≤m∧m≤122)∨(i≠0∧((48≤m∧m≤57)∨m=45))):=by simp [Sy,Tc,SF]
theorem Qu {i n:Nat} (h:128≤n):Sy i n=false:=by
 have h1: ¬n≤122:=by omega
 have h2: ¬n≤57:=by omega
 have h3: ¬n=45:=by omega
 simp [Sy,Tc,SF,h1,h2,h3]
structure Pt where
 name:Bytes
 kind:Int
 sys:Bytes
 deriving DecidableEq
structure Lk where
 src:Bytes
 dst:Bytes
 min:Int
 max:Int
 deriving DecidableEq
structure bg where
 pts:List Pt
 lks:List Lk
 deriving DecidableEq
structure l8 where
 name:Bytes
 closed:Bool
 most:Int
 deriving DecidableEq
structure aZ where
 net:bg
 sys:List l8
 deriving DecidableEq
def eB (p:Pt):List AV:=[.str p.name,.int .i64 p.kind,.str p.sys]
def nT (l:Lk):List AV:=[.str l.src,.str l.dst,.int .i64 l.min,.int .i64 l.max]
def dB (n:bg):List AV:=[.ro (n.pts.map eB),.ro (n.lks.map nT)]
def dC (s:l8):List AV:=[.str s.name,.bool s.closed,.int .i64 s.most]
def ay (t:aZ):List AV:=[.ro (t.net.pts.map eB),.ro (t.net.lks.map nT),.ro (t.sys.map dC)]
attribute [simp] eB nT dB dC ay
def aG (l:List Pt)(s:Bytes):Bool:=l.any fun p=>decide (p.name=s)
def fE (before:List Pt):List Pt→Int
 | []=>0
 | p::l=>if dZ p.name=false then 6 else if aG before p.name then 9 else if p.kind<1∨4<p.kind then 1 else if p.sys≠[]∧dZ p.sys=false then 6 else fE (before++[p]) l
def iA (pts:List Pt)(before:List Lk):List Lk→Int
 | []=>0
 | x::l=>if aG pts x.src=false∨aG pts x.dst=false∨x.src=x.dst then 16
  else if before.any (fun y=>decide (y.src=x.src) && decide (y.dst=x.dst)) then 9
  else if x.min<1∨x.max<x.min∨2147483648<x.max then 12 else iA pts (before++[x]) l
def dR (n:bg):Int:=if 64<n.pts.length∨128<n.lks.length then 3 else if fE [] n.pts≠0 then fE [] n.pts else iA n.pts [] n.lks
def I9:Pt:=⟨[],0,[]⟩
def sys0:l8:=⟨[],false,0⟩
def bS (n:bg)(s:Bytes):Option Pt:=if dR n=0 then n.pts.find? fun p=>decide (p.name=s) else none
def cZ (l:List l8)(s:Bytes):Option l8:=l.find? fun y=>decide (y.name=s)
def mU (l:List l8)(p:Pt):Bool:=
 if p.kind=2∨p.kind=3 then (match cZ l p.sys with | some s=>s.closed | none=>false)
 else if p.kind=1 then (match cZ l p.sys with | some s=> !s.closed | none=>false)
 else (cZ l p.sys).isSome || decide (p.sys=[])
def dY (before:List l8):List l8→Int
 | []=>0
 | s::l=>if dZ s.name=false then 6 else if (cZ before s.name).isSome then 9 else if s.most<0∨2147483648<s.most∨(s.closed=true∧s.most=0) then 12 else dY (before++[s]) l
def bN (t:aZ):Int:=if dR t.net≠0 then dR t.net else if 64<t.sys.length then 3 else if dY [] t.sys≠0 then dY [] t.sys else if t.net.pts.all (mU t.sys) then 0 else 16
def Cc:aZ:=⟨⟨[],[]⟩,[]⟩
def aI (t:aZ):aZ:=if bN t=0 then t else Cc
def kindOf (t:aZ)(s:Bytes):Int:=((bS (aI t).net s).getD I9).kind
def dQ (t:aZ)(s:Bytes):Option l8:=match bS (aI t).net s with
 | some p=>if p.sys=[] then none else cZ (aI t).sys p.sys
 | none=>none
def jU (l:List Pt):List (AV×AV):=l.map fun p=>(.str p.name,.bool true)
def kV (l:List Lk):List (AV×AV):=l.map fun x=>(.agg [.str x.src,.str x.dst],.bool true)
def lc (l:List Lk)(a b:Bytes):Bool:=l.any fun y=>decide (y.src=a) && decide (y.dst=b)
theorem yX (a b:Bytes):iW (ai (.str a)) (ai (.str b))=decide (b=a):=by
 by_cases h:b=a
 ·subst h;simp [ai,iW,lC]
 ·have h': ¬a=b:=fun e=>h e.symm;simp [ai,iW,lC,h,h']
theorem Gv (a b c d:Bytes):iW (ai (.agg [.str a,.str b])) (ai (.agg [.str c,.str d]))=(decide (c=a) && decide (d=b)):=by
 have h1:=yX a c;have h2:=yX b d;simp only [ai,iW,lC,Bool.and_true] at h1 h2 ⊢;rw [h1,h2]
theorem Ak (s:Bytes): ∀l:List Pt,((jU l).find? fun p=>iW (ai (.str s)) (ai p.1)).map (·.2)=if aG l s then some (.bool true) else none
 | []=>rfl
 | p::l=>by
  have ih:=Ak s l;rw [jU,List.map_cons,List.find?_cons,yX,aG,List.any_cons];by_cases h:p.name=s
  ·simp [h]
  ·rw [show decide (p.name=s)=false from by simp [h],Bool.false_or];exact ih
theorem uC (l:List Pt)(s:Bytes):(fJ (jU l) (.str s)).getD (.bool false)= .bool (aG l s):=by
 unfold fJ;rw [Ak];cases aG l s <;> rfl
theorem zu {s:Bytes}: ∀ {l:List Pt},aG l s=false→mQ (jU l) (.str s)=none
 | [],_=>rfl
 | p::l,h=>by
  rw [aG,List.any_cons,Bool.or_eq_false_iff] at h;have ih:=zu (l:=l) h.2;rw [mQ,jU,List.map_cons,List.findIdx?_cons,yX,h.1];rw [mQ,jU] at ih;rw [ih];simp
theorem Jh {l:List Pt} {p:Pt} (h:aG l p.name=false):ui (jU l) (.str p.name) (.bool true)=jU (l++[p]):=by
 rw [ui,zu h];simp [jU]
theorem Al (a b:Bytes): ∀l:List Lk,((kV l).find? fun p=>iW (ai (.agg [.str a,.str b])) (ai p.1)).map (·.2)=if lc l a b then some (.bool true) else none
 | []=>rfl
 | x::l=>by
  have ih:=Al a b l;rw [kV,List.map_cons,List.find?_cons,Gv,lc,List.any_cons]
  cases h:decide (x.src=a) && decide (x.dst=b) with
  | true=>simp
  | false=>rw [Bool.false_or];exact ih
theorem JS (l:List Lk)(a b:Bytes):(fJ (kV l) (.agg [.str a,.str b])).getD (.bool false)= .bool (lc l a b):=by
 unfold fJ;rw [Al];cases lc l a b <;> rfl
theorem zw {a b:Bytes}: ∀ {l:List Lk},lc l a b=false→mQ (kV l) (.agg [.str a,.str b])=none
 | [],_=>rfl
 | x::l,h=>by
  rw [lc,List.any_cons,Bool.or_eq_false_iff] at h;have ih:=zw (l:=l) h.2;rw [mQ,kV,List.map_cons,List.findIdx?_cons,Gv,h.1];rw [mQ,kV] at ih;rw [ih];simp
theorem Ji {l:List Lk} {x:Lk} (h:lc l x.src x.dst=false):ui (kV l) (.agg [.str x.src,.str x.dst]) (.bool true)=kV (l++[x]):=by
 rw [ui,zw h];simp [kV]
theorem vN {α:Type} (p:α→Bool): ∀(l:List α) (i:Nat),(idxFrom p i l= -1∧l.find? p=none)∨ ∃(k:Nat) (x:α),idxFrom p i l=((i+k:Nat):Int)∧l[k]? =some x∧l.find? p=some x
 | [],i=> .inl ⟨rfl,rfl⟩
 | x::l,i=>by
  rw [idxFrom,List.find?_cons]
  cases hx:p x with
  | true=>exact .inr ⟨0,x,by simp,rfl,rfl⟩
  | false=>
   rcases vN p l (i+1) with⟨h1,h2⟩ | ⟨k,y,h1,h2,h3⟩
   ·exact .inl ⟨by simpa using h1,h2⟩
   ·exact .inr ⟨k+1,y,by show idxFrom p (i+1) l=_;rw [h1];omega,h2,h3⟩
theorem lT {α:Type} (p:α→Bool)(l:List α):(kT p l= -1∧l.find? p=none)∨ ∃(k:Nat) (x:α),kT p l=(k:Int)∧l[k]? =some x∧l.find? p=some x:=by
 have:=vN p l 0;simpa [kT] using this
theorem xU {α β:Type} (f:α→β)(p:β→Bool)(q:α→Bool)(h: ∀x,p (f x)=q x): ∀(l:List α) (i:Nat),idxFrom p i (l.map f)=idxFrom q i l
 | [],_=>rfl
 | x::l,i=>by rw [List.map_cons,idxFrom,idxFrom,h,xU f p q h l (i+1)]
theorem GZ {α β:Type} (f:α→β)(p:β→Bool)(q:α→Bool)(h: ∀x,p (f x)=q x)(l:List α):kT p (l.map f)=kT q l:=xU f p q h l 0
theorem vO (l:List Pt)(s:Bytes):decide (0≤kT (fun q:Pt=>decide (q.name=s)) l)=aG l s:=G5 _ _
theorem G6 (l:List Pt)(s:Bytes):decide (kT (fun q:Pt=>decide (q.name=s)) l<0)= !aG l s:=by
 rw [←vO,←decide_not];congr 1
 simp
def bW (n:bg):bg:=if dR n=0 then n else ⟨[],[]⟩
theorem uF {n:bg} (h:dR n=0):n.pts.length≤64∧n.lks.length≤128:=by
 unfold dR at h;split at h
 ·cases h
 ·omega
theorem KS (n:bg):(bW n).pts.length≤64∧(bW n).lks.length≤128:=by
 unfold bW;split
 ·rename_i h;exact uF h
 ·simp
theorem Mq (n:bg)(s:Bytes):bS n s=(bW n).pts.find? fun p=>decide (p.name=s):=by
 unfold bS bW;split <;> rfl
theorem qQ (l:List Pt)(s:Bytes)(k:Nat)(h:l.length≤k):aG (l.take k) s=aG l s:=by rw [zG h]
theorem wz: ∀ {l before:List Pt},fE before l=0→ ∀p∈l,dZ p.name=true∧1≤p.kind∧p.kind≤4
 | [],_,_=>by simp
 | p::l,before,h=>by
  rw [fE] at h;split at h
  ·cases h
  rename_i h1;split at h
  ·cases h
  split at h
  ·cases h
  rename_i h3;split at h
  ·cases h
  intro q hq;rcases List.mem_cons.1 hq with rfl | hq
  ·exact⟨by simpa using h1,by omega,by omega⟩
  ·exact wz h q hq
theorem lJ {n:bg} (h:dR n=0): ∀p∈n.pts,dZ p.name=true∧1≤p.kind∧p.kind≤4:=by
 unfold dR at h;split at h
 ·cases h
 split at h
 ·rename_i h2;exact absurd h h2
 ·rename_i h2;exact wz (by simpa using h2)
theorem kN {t:aZ} (h:bN t=0):dR t.net=0∧t.sys.length≤64∧dY [] t.sys=0∧t.net.pts.all (mU t.sys)=true:=by
 unfold bN at h;split at h
 ·rename_i h2;exact absurd h h2
 rename_i h1;split at h
 ·cases h
 rename_i h2;split at h
 ·rename_i h3;exact absurd h h3
 rename_i h3;split at h
 ·rename_i h4;exact⟨by simpa using h1,by omega,by simpa using h3,h4⟩
 ·cases h
theorem eQ (t:aZ):dR (aI t).net=0:=by
 unfold aI;split
 ·rename_i h;exact (kN h).1
 ·rfl
theorem jc (t:aZ):(aI t).net.pts.length≤64∧(aI t).net.lks.length≤128∧(aI t).sys.length≤64:=by
 have:=uF (eQ t);refine⟨this.1,this.2,?_⟩;unfold aI;split
 ·rename_i h;exact (kN h).2.1
 ·simp [Cc]
theorem Ny {t:aZ} {s:Bytes} {p:Pt} (hp:bS (aI t).net s=some p)(hs:p.sys≠[]): ∃y,cZ (aI t).sys p.sys=some y:=by
 unfold bS at hp;split at hp
 ·have hm:=List.mem_of_find?_eq_some hp;unfold aI at hm ⊢;split at hm
  ·rename_i h;obtain⟨_,_,_,h4⟩:=kN h;rw [if_pos h];have:=List.all_eq_true.1 h4 p hm;unfold mU at this
   cases hf:cZ t.sys p.sys with
   | some y=>exact⟨y,rfl⟩
   | none=>rw [hf] at this;simp [hs] at this
  ·simp [Cc] at hm
 ·cases hp
def Vs:Sh:=VO .str LF .str
def Vr:Sh:=WS .str .str LF LF
def PR:Sh:=VO .str .bool LF
def PP:Sh:=VN (.sl Vs) (.sl Vr)
def FT:Sh:=VN PP (.sl PR)
theorem Wh {es:List AV} (h:Sh.bool.ok es): ∃b,es=[.bool b]:=h
theorem Vp {es:List AV} (h:Vs.ok es): ∃x:Pt,es=eB x∧True:=by
 obtain⟨_,_,_,rfl,h1,h2,h3⟩:=JY h;obtain⟨a,rfl,ha⟩:=uG h1;obtain⟨b,rfl,hb⟩:=CU h2;obtain⟨c,rfl,hc⟩:=uG h3;exact⟨⟨a,b,c⟩,rfl,trivial⟩
theorem Vo {es:List AV} (h:Vr.ok es): ∃x:Lk,es=nT x∧True:=by
 obtain⟨_,_,_,_,rfl,h1,h2,h3,h4⟩:=Tj h;obtain⟨a,rfl,ha⟩:=uG h1;obtain⟨b,rfl,hb⟩:=uG h2;obtain⟨c,rfl,hc⟩:=CU h3;obtain⟨d,rfl,hd⟩:=CU h4;exact⟨⟨a,b,c,d⟩,rfl,trivial⟩
theorem Ti {es:List AV} (h:PR.ok es): ∃x:l8,es=dC x∧True:=by
 obtain⟨_,_,_,rfl,h1,h2,h3⟩:=JY h;obtain⟨a,rfl,ha⟩:=uG h1;obtain⟨b,rfl⟩:=Wh h2;obtain⟨c,rfl,hc⟩:=CU h3;exact⟨⟨a,b,c⟩,rfl,trivial⟩
theorem Tg {es:List AV} (h:PP.ok es): ∃x:bg,es=dB x∧True:=by
 obtain⟨_,_,rfl,h1,h2⟩:=JX h;obtain⟨a,rfl,ha⟩:=M0 h1 fun _=>Vp;obtain⟨b,rfl,hb⟩:=M0 h2 fun _=>Vo;exact⟨⟨a,b⟩,rfl,trivial⟩
theorem QT {es:List AV} (h:FT.ok es): ∃x:aZ,es=ay x∧True:=by
 obtain⟨_,_,rfl,h1,h2⟩:=JX h;obtain⟨a,rfl,ha⟩:=Tg h1;obtain⟨b,rfl,hb⟩:=M0 h2 fun _=>Ti;exact⟨⟨a,b⟩,rfl,trivial⟩
theorem Gq {x:AV} (h:x9 FT x): ∃t:aZ,x= .agg (ay t):=by
 obtain⟨t,h,_⟩:=Rf (f:= .cons PP (.cons (.sl PR) .none)) h fun _=>QT;exact⟨t,h⟩
end Go.Toll
end
section
namespace Go.Proofs.YtkpioblbeiaefaaGreat
open Go Go.Abs Go.Toll
variable {gl : aM} {h : ae}
set_option maxHeartbeats 1000000 in
theorem xC (s:Bytes):aa Tryz.prog gl 161 [.str s] h fun v h'=>v= .bool (dZ s)∧h'=h:=by
 refine aa.data (.bool _) (aa.body Tryz.f161 _ mixed Tryz.func161 rfl rfl (by simp [Tryz.ntmps161]) ?_);by_cases h0:s=[]
 ·subst h0;simp [dZ]
 by_cases h12:(12:Int)<s.length
 ·simp [h0,h12,dZ];omega
 have hp:0<s.length:=List.length_pos_iff.2 h0;have hn:dZ s=Cy 0 s:=by simp [dZ,hp];omega
 simp [h0,h12];refine aT.up mixed s.length (fun i fr h'=>fr 14= .obj h.length∧h'=h++[oG s i]∧dZ s=Cy i (s.drop i)) 0 (by omega) ⟨by simp,by simp,by simp [hn]⟩ ?_;rintro i fr h' hi ⟨e14,rfl,hf⟩;rcases zN i s.length with hlt | hge
 ·obtain⟨c,hg,hg'⟩:=aN hlt;rw [bv hg,Cy] at hf;by_cases hc:c.toNat<128
  ·have hr:=FP hg hc;simp [e14];refine⟨s,i,⟨rfl,rfl⟩,?_⟩;rw [hr];have key:=K4 i c.toNat;simp only;generalize c.toNat=m at*;refine⟨fun _=>⟨by omega,by omega,by omega,fun a b=> ?_,fun a=>⟨i+1,by omega,by omega,⟨trivial,rfl⟩,?_⟩⟩,fun hh=>absurd hh (by omega)⟩
   ·have:Sy i m=false:=by rw [Bool.eq_false_iff,ne_eq,key];omega
    rw [hf,this];rfl
   ·rw [hf,key.2 (by omega),Bool.true_and]
  ·have hr:=(Km hg hc).1;rw [Qu (by omega)] at hf;simp [e14];refine⟨s,i,⟨rfl,rfl⟩,?_⟩;generalize (kW s i).1=m at*;refine⟨fun _=>⟨by omega,by omega,by omega,fun a b=>hf,fun a=>by omega⟩,fun hh=>absurd hh (by omega)⟩
 ·rw [zH hge,Cy] at hf;simp [e14];exact⟨s,i,⟨rfl,rfl⟩,fun hh=>absurd hh (by omega),fun _=>hf⟩
set_option maxHeartbeats 1000000 in
theorem pG (s:Bytes):aa Tryz.prog gl 58 [.str s] h fun v h'=>v= .bool (dZ s)∧h'=h:=by
 refine aa.data (.bool _) (aa.body Tryz.f58 _ mixed Tryz.func58 rfl rfl (by simp [Tryz.ntmps58]) ?_);by_cases h0:(s.length:Int)<1
 ·simp [h0,dZ];omega
 by_cases h12:(12:Int)<s.length
 ·simp [h0,h12,dZ];omega
 have hn:dZ s=Cy 0 s:=by simp [dZ];omega
 simp [h0,h12];refine aT.up mixed s.length (fun i fr h'=>fr 0= .str s∧fr 3= .int .i64 i∧h'=h∧dZ s=Cy i (s.drop i)) 0 (by omega) ⟨by simp,by simp,by simp,by simp [hn]⟩ ?_;rintro i fr h' hi ⟨e0,e3,rfl,hf⟩;rcases zN i s.length with hlt | hge
 ·obtain⟨c,hg,hg'⟩:=aN hlt;rw [bv hg,Cy] at hf;have ew:=aC (i:=i) (by omega);simp [e0,e3,hlt,hg,hg',ew];have key:=K4 i c.toNat;generalize c.toNat=m at*;refine⟨by omega,by omega,fun a b=> ?_,fun a=>⟨i+1,by omega,by omega,by omega,?_⟩⟩
  ·have:Sy i m=false:=by rw [Bool.eq_false_iff,ne_eq,key];omega
   rw [hf,this];rfl
  ·rw [hf,key.2 (by omega),Bool.true_and]
 ·rw [zH hge,Cy] at hf;simp [e0,e3,Nat.not_lt.2 hge,hf]
end Go.Proofs.YtkpioblbeiaefaaGreat
end
