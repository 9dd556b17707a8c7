/- The program's FromUnits. -/
import Derived.Test.YthdoeaiehajofaaDoorTJoin
import Derived.Laws.Cover4
namespace Go.Proofs.YthdoeaiehajofaaDoor
set_option linter.unusedVariables false
set_option maxRecDepth 20000
open Go.RowKit
theorem bs_append (a b : ByteArray) : bs (a ++ b) = bs a ++ bs b := by
  unfold bs
  rw [ByteArray.data_append, Array.toList_append, List.map_append]
theorem bs_encode (n : Nat) (h : U.may n) : bs (Utf8.encode (n : Int)) = U.enc n := by
  obtain ⟨h1, h2⟩ := h
  have hv : Utf8.valid (n : Int) = true := by unfold Utf8.valid; simp; omega
  unfold Utf8.encode U.enc
  simp only [hv, if_true, Int.toNat_natCast]
  have hb : ∀ x : Nat, x < 256 → (UInt8.ofNat x).toNat = x := fun x hx => by rw [UInt8.toNat_ofNat']; exact Nat.mod_eq_of_lt hx
  by_cases a : n < 128
  · rw [if_pos a, if_pos a]; simp only [bs, List.map_cons, List.map_nil]; rw [hb n (by omega)]
  rw [if_neg a, if_neg a]
  by_cases b : n < 2048
  · rw [if_pos b, if_pos b]; simp only [bs, List.map_cons, List.map_nil]; rw [hb _ (by omega), hb _ (by omega)]
  rw [if_neg b, if_neg b]
  by_cases c : n < 65536
  · rw [if_pos c, if_pos c]; simp only [bs, List.map_cons, List.map_nil]; rw [hb _ (by omega), hb _ (by omega), hb _ (by omega)]
  rw [if_neg c, if_neg c]
  simp only [bs, List.map_cons, List.map_nil]; rw [hb _ (by omega), hb _ (by omega), hb _ (by omega), hb _ (by omega)]
theorem bs_foldl (rs : List Nat) (h : ∀ r ∈ rs, U.may r) : ∀ s : ByteArray, bs ((rs.map Int.ofNat).foldl (fun r n => r ++ Utf8.encode n) s) = bs s ++ U.encs rs := by
  induction rs with
  | nil => intro s; simp [U.encs]
  | cons r rs ih =>
    intro s
    rw [List.map_cons, List.foldl_cons, ih (fun x hx => h x (by simp [hx])), bs_append, U.encs_cons, show (Int.ofNat r) = ((r : Nat) : Int) from rfl, bs_encode r (h r (by simp)), List.append_assoc]
theorem encs_lt (rs : List Nat) (h : ∀ r ∈ rs, U.may r) : ∀ c ∈ U.encs rs, c < 256 := by
  intro c hc
  unfold U.encs at hc
  obtain ⟨r, hr, hcr⟩ := List.mem_flatMap.1 hc
  exact U.enc_lt r (h r hr) c hcr
theorem runes_string (rs : List Nat) (h : ∀ r ∈ rs, U.may r) : runesBytes (rs.map Int.ofNat) = strOf (U.encs rs) := by
  apply bs_inj
  rw [bs_strOf _ (encs_lt rs h)]
  unfold runesBytes
  rw [bs_foldl rs h]
  rfl
/-- What FromUnits answers. -/
def fu (zs : List Int) : ByteArray := if (U.jn zs).1 = 0 then strOf (U.encs (U.jn zs).2) else ⟨#[]⟩
def FUPost (w : World) (zs : List Int) (e : Ending) (w' : World) : Prop := Below w.heap.size w w' ∧ e = .returned (.tuple #[.string (fu zs), .int .i64 (U.jn zs).1])
/-- string(r). -/
theorem run_runes {base : Nat} {v : Value} {rs : List Nat} (w : World) (h : OwnsZ w base 21 .i32 v (rs.map Int.ofNat)) (hr : ∀ r ∈ rs, U.may r) :
    (Go.convert 58 9 v).run Tryd.prog w = .ok (.string (strOf (U.encs rs))) w := by
  by_cases h0 : rs = []
  · subst h0
    obtain ⟨p, c, rfl⟩ := h.shape
    cases p with
    | none => exact run_convert_runes_nil w _ _ _ _ _ Tryd.underlying58 Tryd.underlying21 Tryd.underlying9
    | some a => 
      have := run_convert_runes w 58 9 21 a 0 c [] (by simp) Tryd.underlying58 Tryd.underlying21 Tryd.underlying9 (by simp)
      (first | exact this | simpa [runesBytes, U.encs] using this)
  · have hl : 0 < (rs.map Int.ofNat).length := by rw [List.length_map]; exact List.length_pos_iff.2 h0
    obtain ⟨g, cap, rfl, _⟩ := h.cell 0 hl
    have := run_convert_runes w 58 9 21 ⟨g, 0, none⟩ (rs.map Int.ofNat).length cap (rs.map Int.ofNat) (Nat.le_refl _) Tryd.underlying58 Tryd.underlying21 Tryd.underlying9 (fun j hj => by
      obtain ⟨g2, cap2, hv, hc⟩ := h.cell j hj
      have hgg : g = g2 := by injection hv with h1; injection h1 with h2; injection h2
      subst hgg
      rw [show (⟨g, 0, none⟩ : Addr).add j = ⟨g, j, none⟩ by unfold Addr.add; simp; omega]
      exact hc)
    rw [List.take_length, runes_string rs hr] at this
    exact this
theorem fromUnitsW (v : Value) (zs : List Int) (w : World) (hgl : Glob w) (h : Ints w v zs) (hs : zs.length ≤ 16777216) : Calls Tryd.prog 14 #[v] w (FUPost w zs) := by
  have HR := Lib.hid (joinedW v zs w hgl h hs)
  have HG := Lib.hid hgl
  obtain ⟨p, c, rfl, hc⟩ := h.form
  clear h hc hgl
  obtain ⟨F, hF⟩ : ∃ F, F = fu zs := ⟨_, rfl⟩
  unfold FUPost
  rw [← hF]
  have HF := Lib.hid hF
  clear hF
  go_enter Tryd.func14, Tryd.ntmps14
  go_wp2_with fail
  refine HR.out.mono ?_
  rintro e w1 ⟨hb, ⟨h1, v, rfl, h2⟩ | ⟨h1, p, rfl⟩⟩
  · have HB := Lib.hid hb
    have hcv := run_runes w1 h2 (U.units_jn zs h1).2
    have H1 := Lib.hid h1
    clear hb h1 h2
    go_wp2_with fail
    go_ret2
    exact ⟨HB.out, by rw [HF.out, H1.out]; unfold fu; rw [if_pos H1.out]; rfl⟩
  · have HB := Lib.hid hb
    have HT := Lib.hid (toldW p (U.jn zs).1 w1 (HG.out.below hb HG.out.lt))
    have H1 := Lib.hid h1
    clear h1 hb
    unfold TErr at HT ⊢
    go_wp2_with (go_at_call 39; refine HT.out.mono ?_; rintro e w2 ⟨rfl, hb2⟩)
    go_ret2
    exact ⟨HB.out.trans (hb2.mono HB.out.size), by rw [HF.out]; unfold fu; rw [if_neg H1.out]; rfl⟩
end Go.Proofs.YthdoeaiehajofaaDoor
