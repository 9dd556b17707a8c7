/-
  Whatever the files and the script: the law DiskDoes answers true. Conditions: the bound on the arguments' bulk.
-/
import Derived.Test.YtennhmnmoamleaaDOpen
import Derived.Test.YtennhmnmoamleaaDDoes8
import Derived.WalkKit
import Derived.ProofKit
import Derived.OpenShut
import Derived.ShutString
import Derived.JoinedCond
import Derived.Carry
import Derived.Lib.SmallJoins
namespace Go.Proofs.Ytennhmnmoamleaa.diskDoes
open Go.ChangeShapes Go.WideShapes Go.ChangeAt Go.RowKit
open Go.ChangeMaps (open_string shut_string)
set_option linter.unusedVariables false

theorem own : ownKnob Try.prog.godebug = none := by kernel_rfl
theorem laidOut : laidOutB Try.prog = true := by kernel_rfl
theorem cells9 : Try.prog.cellsOf 9 = 1 := by kernel_rfl
theorem slice_one {H : Type} {enc : TypeId × Value → H} {P : Program} {w : World} {base : Nat} {spare : Nat → Bool} {held : Bool} {t e : TypeId} {fuel : Nat} {v : Value} {y : DataW H × List MemPlace} (ht : P.underlying t = some (.slice e)) (h : DataW.trod enc P w base spare held fuel t [v] = some y) : ∃ p n c, v = .slice p n c := by
  obtain ⟨p, n, c, h⟩ := Go.Joins.slice_form ht h
  exact ⟨p, n, c, by simpa using h⟩
set_option maxRecDepth 100000 in
theorem lifted (os : Os) (started : os.Started) (H : Type) (enc : TypeId × Value → H) (F : Stop.Interp) :
    ReturnsInHanded {} Try.checked os 3 .any ((Rows.OpenSpec.upto Rows.diskDoesSpec).pre6 enc Try.prog Try.f3 Rows.diskDoesUptoRow.domain false) (((Rows.OpenSpec.upto Rows.diskDoesSpec).at F).post enc Try.prog Try.f3 false true false false) := by
  refine returnsInHanded_of_cond (C := Try.checked) (s := Rows.OpenSpec.upto Rows.diskDoesSpec) (k := Rows.uptoSmall) rfl own started (by kernel_rfl) Try.func3
    (OpenSpec.witness (enc := enc) (C := Try.checked) (s := Rows.OpenSpec.upto Rows.diskDoesSpec) (k := Rows.uptoSmall) rfl false ⟨#[], #[.slice none 0 0, .slice none 0 0], []⟩ 8 (by kernel_rfl) (by kernel_rfl) (by kernel_rfl)
      (x := ([.nil, .nil], [], [])) (by kernel_rfl) rfl (by kernel_rfl)) ?_
  intro W base args ds gs before hval0 hW _ hk0 _
  have hval : ∀ (j : Nat) t v, Try.f3.params[j]? = some t → args[j]? = some v → Value.okWide Try.prog W .any base t v := hval0
  have hW' := hW
  obtain ⟨p, q, hA0, hV, rfl, hfz, hnd⟩ := hW
  have hA : DataW.TrodAll enc Try.prog W 0 (fun _ => true) true Try.f3.params.toList args.toList ds p := hA0
  have hk : Rows.uptoBulkAll (ds ++ gs) ≤ 1048576 := of_decide_eq_true hk0
  clear hk0
  rw [Try.params3] at hA hval
  obtain ⟨v0, vs0, d0, ds0, p0, q0, hargs, rfl, rfl, h0, r0⟩ := trodAll_cons hA
  obtain ⟨v1, vs1, d1, ds1, p1, q1, rfl, rfl, rfl, h1, r1⟩ := trodAll_cons r0
  obtain ⟨rfl, rfl, rfl⟩ := trodAll_nil r1
  obtain rfl : args = #[v0, v1] := by cases args; simp_all
  obtain ⟨rfl, rfl⟩ := trodVars_none hV
  obtain ⟨s0, l0, c0, hv0⟩ := okWide_slice Try.underlying22 (hval 0 22 v0 rfl rfl)
  obtain ⟨s1, l1, c1, hv1⟩ := okWide_slice Try.underlying23 (hval 1 23 v1 rfl rfl)
  have h0k := h0
  have h1k := h1
  obtain ⟨fuel0, f0⟩ := h0
  obtain ⟨fuel1, f1⟩ := h1
  have f0' : DataW.trod enc Try.prog W 0 (fun _ => true) true fuel0 22 [v0] = some (d0, p0) := by subst hv0; simpa [Value.cells] using f0
  have f1' : DataW.trod enc Try.prog W 0 (fun _ => true) true fuel1 23 [v1] = some (d1, p1) := by subst hv1; simpa [Value.cells] using f1
  obtain ⟨ss, hst, hbulk⟩ := open_strs1 Try.underlying22 Try.underlying9 cells9 f0'
  obtain ⟨os', hops, hob, hos, hoc, hom, hon⟩ := open_ops f1'
  dsimp only at hbulk hob hos hoc hom
  clear hA0 hval0
  simp only [List.append_nil] at hW' hk
  simp only [Rows.uptoBulkAll, Rows.uptoBulk] at hk
  have hlt : ∀ x ∈ (p0 ++ p1), x.block < W.heap.size := fun x hx => by simpa using hW'.lt x (by simpa using hx)
  have fin : ∀ (e : Ending) (W' : World), e = .returned (.bool true) ∧ Below W.heap.size W W' → ∃ v, e = .returned v ∧ ((Rows.OpenSpec.upto Rows.diskDoesSpec).at F).post enc Try.prog Try.f3 false true false false W #[v0, v1] v W' := by
    intro e W' ⟨he, hb⟩
    subst he
    exact ⟨_, rfl, ⟨_, _, _, [], p0 ++ (p1 ++ []), [], hW', trodAll_mk1 (shut_bool Try.underlying4 true), trodAll_cons_mk (Below.trod laidOut (by kernel_rfl) (of_decide_eq_true (by kernel_rfl)) h0k hb (fun x hx => hlt x (List.mem_append_left _ hx))) (trodAll_cons_mk (Below.trod laidOut (by kernel_rfl) (of_decide_eq_true (by kernel_rfl)) h1k hb (fun x hx => hlt x (List.mem_append_right _ hx))) trodAll_mk0), rfl, hb.frame _, fun h => by cases h⟩⟩
  exact (doesLaw v0 v1 ss os' hst (by omega) (fun i hi => by have := size_le_cat ss i hi; omega) hops (by omega) (fun i => by have := hos i; omega) (fun i => by have := hoc i; omega) (fun i j => by have := hom i j; omega) hon).mono fin

theorem over : Rows.diskDoesUptoRow.holds Try.pinned (Rows.OpenSpec.upto Rows.diskDoesSpec) :=
  OpenClaim.holds_of_cond 3 Try.f3 rfl rfl rfl rfl rfl rfl rfl ⟨rfl, rfl, rfl, rfl, rfl⟩ rfl rfl rfl rfl rfl (by kernel_rfl) Try.func3 (by kernel_rfl)
    (of_decide_eq_true (by kernel_rfl)) (by unfold Func.isWrapper; first | (rw [if_pos (by decide +kernel)]; kernel_rfl) | (rw [if_neg (by decide +kernel)]; exact ⟨rfl, rfl⟩))
    (fun os started H enc _ F => lifted os started H enc F)

/-- ████ THE STATEMENT ████ -/
theorem proved : Rows.DiskDoesUptoSaid :=
  over
end Go.Proofs.Ytennhmnmoamleaa.diskDoes
