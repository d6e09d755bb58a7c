/-
  The law TripAll returns true at every input of the bulk that the statement allows: for every topology and every list of passages, under no further condition.
-/
import Derived.Test.YtkpioblbeiaefaaGreatPb32
import Derived.Test.YtkpioblbeiaefaaGreatRows
import Derived.ProofKit
import Derived.JoinedCond
set_option linter.unusedSectionVars false
set_option linter.unusedVariables false
set_option linter.unusedSimpArgs false
set_option linter.unnecessarySimpa false
set_option maxRecDepth 100000
namespace Go.Proofs.YtkpioblbeiaefaaGreat.lTripAll
open Go Go.Abs Go.Toll Go.ChangeShapes Go.WideShapes Go.ChangeAt Go.RowKit
theorem own:ownKnob Tryz.prog.godebug=none:=by kernel_rfl
def shapes:List Sh:=[J5,.sl EX]
theorem holds (xs:List AV)(h:En shapes xs)(hN:nP 1048576 shapes xs):af Tryz.prog (fun _=>none) 4 xs [] fun v h'=>v= .bool true:=by
 obtain⟨_,_,rfl,h1,_,_,rfl,h2,rfl⟩:=h;obtain⟨t,rfl⟩:=KA h1;obtain⟨l,rfl,hok⟩:=GL h2 (Be hN);exact U6 t l hok
theorem one_le {H:Type} (d:DataW H):1≤Rows.uptoBulk d:=by
 cases d with
 | lit l=>cases l <;> simp [Rows.uptoBulk]
 | nil=>simp [Rows.uptoBulk]
 | ptr d=>simp [Rows.uptoBulk]
 | slice elems spare=>simp [Rows.uptoBulk]
 | agg parts=>simp [Rows.uptoBulk]
 | iface t d=>simp [Rows.uptoBulk]
 | map entries=>simp [Rows.uptoBulk]
 | held h=>simp [Rows.uptoBulk]
theorem part_le {H:Type} {d:DataW H} {l:List (DataW H)} (h:d∈l):Rows.uptoBulk d≤Rows.uptoBulkAll l:=by
 induction l with
 | nil=>cases h
 | cons x r ih=>
  simp only [Rows.uptoBulkAll]
  cases List.mem_cons.1 h with
  | inl e=>subst e;omega
  | inr e=>have:=ih e;omega
theorem length_le {H:Type} (l:List (DataW H)):l.length≤Rows.uptoBulkAll l:=by
 induction l with
 | nil=>simp [Rows.uptoBulkAll]
 | cons x r ih=>have:=one_le x;simp only [Rows.uptoBulkAll,List.length_cons];omega
theorem bulkOk {H:Type}:rM (Rows.uptoBulk (H:=H)):=by
 refine⟨fun bytes=>by simp [Rows.uptoBulk],fun elems spare=> ?_,fun elems spare d hd=> ?_,fun parts d hd=> ?_⟩
 ·have:=length_le elems;simp only [Rows.uptoBulk];omega
 ·have:=part_le hd;simp only [Rows.uptoBulk];omega
 ·have:=part_le hd;simp only [Rows.uptoBulk];omega
theorem contract (H:Type)(enc:TypeId×Value→H)(W:World)(base:Nat)(args:Array Value)(ds gs:List (DataW H))(before:List MemPlace)
  (hval: ∀(j:Nat) t v,Tryz.f4.params[j]? =some t→args[j]? =some v→Value.okWide Tryz.prog W .any base t v)
  (hW:DataW.Whole enc Tryz.prog Tryz.f4.params.toList Rows.tripAllSpec.vars false W args.toList ds gs before) (hk:Rows.uptoSmall H (ds++gs)=true):
  Calls Tryz.prog 4 args W fun e W'=> ∃v,e= .returned v∧Rows.tripAllSpec.post enc Tryz.prog Tryz.f4 false true false false W args v W':=
 wO (gl:=fun _=>none) (tb:=4) shapes (kids_rows (by kernel_rfl) (by kernel_rfl)) (slices_full_of _ (by kernel_rfl)) (by kernel_rfl) (by decide+kernel) (by kernel_rfl) (by kernel_rfl) rfl
  (fun ds hd=>by
   match ds,hd with
   | [d0,d1],_=>rfl) (fun _ _ h=>by cases h) base args ds gs before
  (fun xs hx hb=>holds xs hx (hb _ bulkOk _ fun d hd=>by
   have h1:Rows.uptoBulkAll (ds++gs)≤1048576:=of_decide_eq_true hk;exact Nat.le_trans (part_le (List.mem_append_left gs hd)) h1)) hval hW
theorem lifted (os:Os)(started:os.Started)(H:Type)(enc:TypeId×Value→H)(F:Stop.Interp):
  ReturnsInHanded {} Tryz.checked os 4 .any ((Rows.OpenSpec.upto Rows.tripAllSpec).pre6 enc Tryz.prog Tryz.f4 Rows.tripAllUptoRow.domain false) (((Rows.OpenSpec.upto Rows.tripAllSpec).at F).post enc Tryz.prog Tryz.f4 false true false false):=by
 refine returnsInHanded_of_cond (C:=Tryz.checked) (s:=Rows.OpenSpec.upto Rows.tripAllSpec) (k:=Rows.uptoSmall) rfl own started (by kernel_rfl) Tryz.func4
  (OpenSpec.witness (enc:=enc) (C:=Tryz.checked) (s:=Rows.OpenSpec.upto Rows.tripAllSpec) (k:=Rows.uptoSmall) rfl false ⟨#[],(shapes.map V4).toArray,[]⟩ 8 (by kernel_rfl) (by kernel_rfl) (by kernel_rfl)
   (x:=([.agg [.agg [.nil,.nil],.nil],.nil],[],[])) (by kernel_rfl) rfl (by kernel_rfl)) ?_
 intro W base args ds gs before hval hW _ hk _;exact contract H enc W base args ds gs before hval hW hk
theorem proved:Rows.TripAllUptoSaid:=
 OpenClaim.holds_of_cond 4 Tryz.f4 rfl rfl rfl rfl rfl rfl rfl ⟨rfl,rfl,rfl,rfl,rfl⟩ rfl rfl rfl rfl rfl (by kernel_rfl) Tryz.func4 (by kernel_rfl)
  (of_decide_eq_true (by kernel_rfl)) (by unfold Func.isWrapper;first | (rw [if_pos (by decide+kernel)];kernel_rfl) | (rw [if_neg (by decide+kernel)];exact⟨rfl,rfl⟩))
  (fun os started H enc _ F=>lifted os started H enc F)
#print axioms proved
end Go.Proofs.YtkpioblbeiaefaaGreat.lTripAll
