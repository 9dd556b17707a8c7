/- The walks of Sum, Sum256, Sum384. -/
import Derived.Test.YtilpbjcbffbjeaaGreatDoorHSum32
namespace Go.Proofs.YtilpbjcbffbjeaaGreatDoor
set_option linter.unusedVariables false
open Go.RowKit
theorem isH32_new {w : World} {b : Nat} (h : HBlk w b kc32 i32 zf zf 0) : IsH32 w b [] := ⟨i32, zf, zf, h, ⟨fun j _ => by rw [Sha.stateOf_nil]; rfl, fun j hj => by simp at hj, fun c hc => by simp at hc⟩⟩

theorem IsH32.lt {w : World} {b : Nat} {t : List Nat} (h : IsH32 w b t) : b < w.heap.size := by obtain ⟨_, _, _, h, _⟩ := h; exact h.lt

theorem IsH32.same {w w' : World} {b : Nat} {t : List Nat} (h : IsH32 w b t) (e : w'.heap[b]? = w.heap[b]?) : IsH32 w' b t := by obtain ⟨v, u, k, h, hs⟩ := h; exact ⟨v, u, k, h.same e, hs⟩

set_option maxHeartbeats 400000 in
theorem sumK0 (s : ByteArray) (w : World) (hs : s.size ≤ 576460752303423488) :
    Calls Tryz.prog 117 #[.int .i64 0, .string s] w fun e w' => e = .returned (.tuple #[.string (strOf (Sha.sum Sha.k32 (bs s))), .int .i64 0]) ∧ Below w.heap.size w w' := by
  go_enter Tryz.func117, Tryz.ntmps117
  go_wp2_with fail
  refine (new0 _).mono ?_
  rintro e w1 ⟨b, rfl, hb, hbel, hge⟩
  have hH := Lib.hid (isH32_new hb)
  clear hb
  go_wp2_with fail
  refine (write32 b [] s _ hH.out (by simp; omega)).mono ?_
  rintro e w2 ⟨rfl, hH2, hg2⟩
  have HH2 := Lib.hid hH2
  clear hH2
  go_wp2_with fail
  refine (sum32 b _ _ HH2.out (by simp [length_bs]; omega)).mono ?_
  rintro e w3 ⟨rfl, hb3⟩
  go_wp2_with fail
  go_ret2
  exact ⟨rfl, (hbel.trans (grown_below hg2 hge hbel.size)).trans (hb3.mono (by have := hbel.size; have := hg2.size; omega))⟩


set_option maxHeartbeats 400000 in
theorem sum256W (s : ByteArray) (w : World) (hs : s.size ≤ 576460752303423488) :
    Calls Tryz.prog 91 #[.string s] w fun e w' => e = .returned (.string (strOf (Sha.sum Sha.k32 (bs s)))) ∧ Below w.heap.size w w' := by
  go_enter Tryz.func91, Tryz.ntmps91
  go_wp2_with fail
  refine (sumK0 s _ hs).mono ?_
  rintro e w1 ⟨rfl, hb⟩
  go_wp2_with fail
  go_ret
  exact ⟨rfl, hb⟩

end Go.Proofs.YtilpbjcbffbjeaaGreatDoor
