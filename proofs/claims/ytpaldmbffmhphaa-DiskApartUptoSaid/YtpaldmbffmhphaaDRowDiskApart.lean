/-
  Whatever the files, the script and the choices: the law DiskApart answers true. Conditions: the bound on the arguments' bulk.
-/
import Derived.Test.YtpaldmbffmhphaaDOpen
import Derived.Test.YtpaldmbffmhphaaDApart
import Derived.WalkKit
import Derived.ProofKit
import Derived.OpenShut
import Derived.ShutString
import Derived.JoinedCond
import Derived.Carry
import Derived.Lib.SmallJoins
namespace Go.Proofs.Ytpaldmbffmhphaa.diskApart
open Go.ChangeShapes Go.WideShapes Go.ChangeAt Go.RowKit
open Go.ChangeMaps (open_string shut_string)
set_option linter.unusedVariables false

theorem own : ownKnob Try.prog.godebug = none := by kernel_rfl
theorem laidOut : laidOutB Try.prog = true := by kernel_rfl
theorem cells9 : Try.prog.cellsOf 9 = 1 := by kernel_rfl
theorem slice_one {H : Type} {enc : TypeId × Value → H} {P : Program} {w : World} {base : Nat} {spare : Nat → Bool} {held : Bool} {t e : TypeId} {fuel : Nat} {v : Value} {y : DataW H × List MemPlace} (ht : P.underlying t = some (.slice e)) (h : DataW.trod enc P w base spare held fuel t [v] = some y) : ∃ p n c, v = .slice p n c := by
  obtain ⟨p, n, c, h⟩ := Go.Joins.slice_form ht h
  exact ⟨p, n, c, by simpa using h⟩
set_option maxRecDepth 100000 in
theorem lifted (os : Os) (started : os.Started) (H : Type) (enc : TypeId × Value → H) (F : Stop.Interp) :
    ReturnsInHanded {} Try.checked os 4 .any ((Rows.OpenSpec.upto Rows.diskApartSpec).pre6 enc Try.prog Try.f4 Rows.diskApartUptoRow.domain false) (((Rows.OpenSpec.upto Rows.diskApartSpec).at F).post enc Try.prog Try.f4 false true false false) := by
  refine returnsInHanded_of_cond (C := Try.checked) (s := Rows.OpenSpec.upto Rows.diskApartSpec) (k := Rows.uptoSmall) rfl own started (by kernel_rfl) Try.func4
    (OpenSpec.witness (enc := enc) (C := Try.checked) (s := Rows.OpenSpec.upto Rows.diskApartSpec) (k := Rows.uptoSmall) rfl false ⟨#[], #[.slice none 0 0, .slice none 0 0, .agg #[.int .i64 0, .slice none 0 0, .slice none 0 0]], []⟩ 8 (by kernel_rfl) (by kernel_rfl) (by kernel_rfl)
      (x := ([.nil, .nil, .agg [.lit (.int .i64 0), .nil, .nil]], [], [])) (by kernel_rfl) rfl (by kernel_rfl)) ?_
  intro W base args ds gs before hval0 hW _ hk0 _
  have hval : ∀ (j : Nat) t v, Try.f4.params[j]? = some t → args[j]? = some v → Value.okWide Try.prog W .any base t v := hval0
  have hW' := hW
  obtain ⟨p, q, hA0, hV, rfl, hfz, hnd⟩ := hW
  have hA : DataW.TrodAll enc Try.prog W 0 (fun _ => true) true Try.f4.params.toList args.toList ds p := hA0
  have hk : Rows.uptoBulkAll (ds ++ gs) ≤ 1048576 := of_decide_eq_true hk0
  clear hk0
  rw [Try.params4] at hA hval
  obtain ⟨v0, vs0, d0, ds0, p0, q0, hargs, rfl, rfl, h0, r0⟩ := trodAll_cons hA
  obtain ⟨v1, vs1, d1, ds1, p1, q1, rfl, rfl, rfl, h1, r1⟩ := trodAll_cons r0
  obtain ⟨v2, vs2, d2, ds2, p2, q2, rfl, rfl, rfl, h2, r2⟩ := trodAll_cons r1
  obtain ⟨rfl, rfl, rfl⟩ := trodAll_nil r2
  obtain rfl : args = #[v0, v1, v2] := by cases args; simp_all
  obtain ⟨rfl, rfl⟩ := trodVars_none hV
  obtain ⟨s0, l0, c0, hv0⟩ := okWide_slice Try.underlying22 (hval 0 22 v0 rfl rfl)
  obtain ⟨s1, l1, c1, hv1⟩ := okWide_slice Try.underlying23 (hval 1 23 v1 rfl rfl)
  have h0k := h0
  have h1k := h1
  have h2k := h2
  obtain ⟨fuel0, f0⟩ := h0
  obtain ⟨fuel1, f1⟩ := h1
  obtain ⟨u0, u1, u2, y0, y1, y2, n, rfl, rfl, rfl, g0, g1, g2⟩ := Go.Joins.open_agg3 Try.underlying26 (by kernel_rfl) (by kernel_rfl) (hval 2 26 v2 rfl rfl) h2
  have f0' : DataW.trod enc Try.prog W 0 (fun _ => true) true fuel0 22 [v0] = some (d0, p0) := by subst hv0; simpa [Value.cells] using f0
  have f1' : DataW.trod enc Try.prog W 0 (fun _ => true) true fuel1 23 [v1] = some (d1, p1) := by subst hv1; simpa [Value.cells] using f1
  obtain ⟨ss, hst, hbulk⟩ := open_strs1 Try.underlying22 Try.underlying9 cells9 f0'
  obtain ⟨os', hops, hob, hos, _, _⟩ := open_ops f1'
  obtain ⟨a0, e0, x0, w0⟩ := DataW.trod_int Try.underlying3 g0
  obtain ⟨cA, rA, hA1, hA2⟩ := open_rss g1
  obtain ⟨cB, rB, hB1, hB2⟩ := open_rss g2
  simp only [List.cons.injEq, and_true] at e0
  dsimp only at hbulk hob hos
  subst e0
  clear hA0 hval0
  simp only [List.append_nil] at hW' hk
  simp only [Rows.uptoBulkAll, Rows.uptoBulk] at hk
  have hlt : ∀ x ∈ (p0 ++ (p1 ++ (y0.2 ++ (y1.2 ++ y2.2)))), x.block < W.heap.size := fun x hx => by simpa using hW'.lt x (by simpa using hx)
  have fin : ∀ (e : Ending) (W' : World), e = .returned (.bool true) ∧ Below W.heap.size W W' → ∃ v, e = .returned v ∧ ((Rows.OpenSpec.upto Rows.diskApartSpec).at F).post enc Try.prog Try.f4 false true false false W #[v0, v1, .agg #[.int .i64 a0, u1, u2]] v W' := by
    intro e W' ⟨he, hb⟩
    subst he
    exact ⟨_, rfl, ⟨_, _, _, [], p0 ++ (p1 ++ ((y0.2 ++ (y1.2 ++ y2.2)) ++ [])), [], hW', trodAll_mk1 (shut_bool Try.underlying4 true), trodAll_cons_mk (Below.trod laidOut (by kernel_rfl) (of_decide_eq_true (by kernel_rfl)) h0k hb (fun x hx => hlt x (List.mem_append_left _ hx))) (trodAll_cons_mk (Below.trod laidOut (by kernel_rfl) (of_decide_eq_true (by kernel_rfl)) h1k hb (fun x hx => hlt x (List.mem_append_right _ (List.mem_append_left _ hx)))) (trodAll_cons_mk (Below.trod laidOut (by kernel_rfl) (of_decide_eq_true (by kernel_rfl)) h2k hb (fun x hx => hlt x (List.mem_append_right _ (List.mem_append_right _ hx)))) trodAll_mk0)), rfl, hb.frame _, fun h => by cases h⟩⟩
  exact (apartLaw v0 v1 ss os' hst (by omega) (fun i hi => by have := size_le_cat ss i hi; omega) hops (by omega) (fun i _ => by have := hos i; omega) a0 _ _ cA cB rA rB (by omega) (by omega) (fun i => by have := hA2 i; omega) (fun i => by have := hB2 i; omega)).mono fin

theorem over : Rows.diskApartUptoRow.holds Try.pinned (Rows.OpenSpec.upto Rows.diskApartSpec) :=
  OpenClaim.holds_of_cond 4 Try.f4 rfl rfl rfl rfl rfl rfl rfl ⟨rfl, rfl, rfl, rfl, rfl⟩ rfl rfl rfl rfl rfl (by kernel_rfl) Try.func4 (by kernel_rfl)
    (of_decide_eq_true (by kernel_rfl)) (by unfold Func.isWrapper; first | (rw [if_pos (by decide +kernel)]; kernel_rfl) | (rw [if_neg (by decide +kernel)]; exact ⟨rfl, rfl⟩))
    (fun os started H enc _ F => lifted os started H enc F)

/-- ████ THE STATEMENT ████ -/
theorem proved : Rows.DiskApartUptoSaid :=
  over
end Go.Proofs.Ytpaldmbffmhphaa.diskApart
