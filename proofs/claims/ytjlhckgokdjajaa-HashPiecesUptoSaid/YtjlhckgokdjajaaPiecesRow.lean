/-
  Whatever the kind and the pieces: the law HashPieces answers true. Conditions: the bound on the arguments' bulk.
-/
import Derived.Test.YtjlhckgokdjajaaOpen
import Derived.Test.YtjlhckgokdjajaaPiecesLaw
import Derived.WalkKit
import Derived.ProofKit
import Derived.OpenShut
import Derived.ShutString
import Derived.JoinedCond
import Derived.Carry
namespace Go.Proofs.Ytjlhckgokdjajaa.hashPieces
open Go.ChangeShapes Go.WideShapes Go.ChangeAt Go.RowKit
open Go.ChangeMaps (open_string shut_string)
set_option linter.unusedVariables false

theorem own : ownKnob Try.prog.godebug = none := by kernel_rfl
theorem laidOut : laidOutB Try.prog = true := by kernel_rfl
theorem cells9 : Try.prog.cellsOf 9 = 1 := by kernel_rfl

set_option maxRecDepth 100000 in
theorem lifted (os : Os) (started : os.Started) (H : Type) (enc : TypeId × Value → H) (F : Stop.Interp) :
    ReturnsInHanded {} Try.checked os 9 .any ((Rows.OpenSpec.upto Rows.hashPiecesSpec).pre6 enc Try.prog Try.f9 Rows.hashPiecesUptoRow.domain false) (((Rows.OpenSpec.upto Rows.hashPiecesSpec).at F).post enc Try.prog Try.f9 false true false false) := by
  refine returnsInHanded_of_cond (C := Try.checked) (s := Rows.OpenSpec.upto Rows.hashPiecesSpec) (k := Rows.uptoSmall) rfl own started (by kernel_rfl) Try.func9
    (OpenSpec.witness (enc := enc) (C := Try.checked) (s := Rows.OpenSpec.upto Rows.hashPiecesSpec) (k := Rows.uptoSmall) rfl false ⟨#[], #[.int .i64 0, .slice none 0 0], []⟩ 8 (by kernel_rfl) (by kernel_rfl) (by kernel_rfl)
      (x := ([.lit (.int .i64 0), .nil], [], [])) (by kernel_rfl) rfl (by kernel_rfl)) ?_
  intro W base args ds gs before hval0 hW _ hk0 _
  have hval : ∀ (j : Nat) t v, Try.f9.params[j]? = some t → args[j]? = some v → Value.okWide Try.prog W .any base t v := hval0
  have hW' := hW
  obtain ⟨p, q, hA0, hV, rfl, hfz, hnd⟩ := hW
  have hA : DataW.TrodAll enc Try.prog W 0 (fun _ => true) true Try.f9.params.toList args.toList ds p := hA0
  have hk : Rows.uptoBulkAll (ds ++ gs) ≤ 1048576 := of_decide_eq_true hk0
  clear hk0
  rw [Try.params9] at hA hval
  obtain ⟨v0, vs0, d0, ds0, p0, q0, hargs, rfl, rfl, h0, r0⟩ := trodAll_cons hA
  obtain ⟨v1, vs1, d1, ds1, p1, q1, rfl, rfl, rfl, h1, r1⟩ := trodAll_cons r0
  obtain ⟨rfl, rfl, rfl⟩ := trodAll_nil r1
  obtain rfl : args = #[v0, v1] := by cases args; simp_all
  obtain ⟨rfl, rfl⟩ := trodVars_none hV
  obtain ⟨a0, rfl, rfl, rfl, w0⟩ := open_int Try.underlying3 (hval 0 3 v0 rfl rfl) h0
  obtain ⟨s2, l2, c2, hv2⟩ := okWide_slice Try.underlying38 (hval 1 38 v1 rfl rfl)
  have h2k := h1
  obtain ⟨fuel, hf⟩ := h1
  obtain ⟨ss, hst, hbulk⟩ := open_strs Try.underlying38 Try.underlying9 cells9 hv2 hf
  clear hA0 hval0
  simp only [List.append_nil] at hW' hk
  have hlt : ∀ x ∈ p1, x.block < W.heap.size := fun x hx => by simpa using hW'.lt x (by simp [hx])
  simp only [Rows.uptoBulkAll] at hk
  replace hbulk : (cat ss).length + ss.length ≤ Rows.uptoBulk d1 := hbulk
  have fin : ∀ (e : Ending) (W' : World), e = .returned (.bool true) ∧ Below W.heap.size W W' → ∃ v, e = .returned v ∧ ((Rows.OpenSpec.upto Rows.hashPiecesSpec).at F).post enc Try.prog Try.f9 false true false false W #[.int .i64 a0, v1] v W' := by
    intro e W' ⟨he, hb⟩
    subst he
    exact ⟨_, rfl, ⟨_, _, _, [], [] ++ (p1 ++ []), [], hW', trodAll_mk1 (shut_bool Try.underlying4 true), trodAll_cons_mk (shut_int Try.underlying3 w0) (trodAll_cons_mk (Below.trod laidOut (by kernel_rfl) (of_decide_eq_true (by kernel_rfl)) h2k hb hlt) trodAll_mk0), rfl, hb.frame _, fun h => by cases h⟩⟩
  by_cases hn0 : a0 = 0
  · subst hn0
    exact (piecesK 0 (by decide) v1 ss W hst (by omega) (by omega)).mono fin
  · by_cases hn1 : a0 = 1
    · subst hn1
      exact (piecesK 1 (by decide) v1 ss W hst (by omega) (by omega)).mono fin
    · exact (piecesNo a0 hn0 hn1 v1 W).mono fin

theorem over : Rows.hashPiecesUptoRow.holds Try.pinned (Rows.OpenSpec.upto Rows.hashPiecesSpec) :=
  OpenClaim.holds_of_cond 9 Try.f9 rfl rfl rfl rfl rfl rfl rfl ⟨rfl, rfl, rfl, rfl, rfl⟩ rfl rfl rfl rfl rfl (by kernel_rfl) Try.func9 (by kernel_rfl)
    (of_decide_eq_true (by kernel_rfl)) (by unfold Func.isWrapper; first | (rw [if_pos (by decide +kernel)]; kernel_rfl) | (rw [if_neg (by decide +kernel)]; exact ⟨rfl, rfl⟩))
    (fun os started H enc _ F => lifted os started H enc F)

/-- ████ THE STATEMENT ████ -/
theorem proved : Rows.HashPiecesUptoSaid :=
  over
end Go.Proofs.Ytjlhckgokdjajaa.hashPieces
