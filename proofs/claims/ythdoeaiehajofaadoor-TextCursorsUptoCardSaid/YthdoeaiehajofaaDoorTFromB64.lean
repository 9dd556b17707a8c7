/- The program's FromBase64. -/
import Derived.Test.YthdoeaiehajofaaDoorTFromHex
namespace Go.Proofs.YthdoeaiehajofaaDoor
set_option linter.unusedVariables false
set_option maxRecDepth 100000
open Go.RowKit
set_option maxHeartbeats 2000000 in
theorem fromB64W (s : ByteArray) (w : World) (hgl : Glob w) (hs : s.size ≤ 16777216) : Calls Tryd.prog 32 #[.string s] w (FHPost w s C.b64Of 11) := by
  have HN := Lib.hid (numbersW s ltS 11 w hgl hs (by decide))
  have HG := Lib.hid hgl
  clear hgl
  obtain ⟨n, hn⟩ : ∃ n, n = s.size := ⟨_, rfl⟩
  unfold NPost at HN
  rw [← hn] at HN hs
  have hln : (bs s).length = n := by rw [length_bs, hn]
  have HLN := Lib.hid hln
  clear hn hln
  rw [bs_lt', show ltS.size = C.lt.length from rfl] at HN
  go_enter Tryd.func32, Tryd.ntmps32
  go_wp2_with fail
  refine HN.out.mono ?_
  rintro e w1 ⟨hb, ⟨hall, g, rfl, hg, hrow⟩ | ⟨hnot, p, rfl⟩⟩
  · have HB := Lib.hid hb
    have HA : Hid (∀ c ∈ bs s, C.lt.idxOf c < C.lt.length) := all_in (by rw [HLN.out]; exact hall)
    obtain ⟨f, hf⟩ : ∃ f, f = fun j => C.lt.idxOf ((bs s).getD j 0) := ⟨_, rfl⟩
    rw [← hf] at hrow
    have HD : Hid (C.digs C.lt (bs s) = (List.range n).map f) := by unfold Hid; rw [hf, ← HLN.out, digs_range]
    have HU := Lib.hid (unfoldedW g n n f w1 (HG.out.below hb HG.out.lt) hrow hs (Nat.le_refl _) (fun j hj => by rw [hf]; exact hall j hj))
    clear hb hall hrow hf
    go_wp2_with fail
    refine HU.out.mono ?_
    rintro e w2 ⟨hb2, ⟨r, v, hu, rfl, hown⟩ | ⟨hu, p, rfl⟩⟩
    · have HB2 := Lib.hid (HB.out.trans (hb2.mono HB.out.size))
      have HX := Lib.hid (C.b64_of HA.out (by rw [HD.out]; exact hu))
      have HO := Lib.hid hown
      clear hb2 hu hown
      go_wp2_with (with_reducible refine wpList_owned_string rfl 36 9 _ rfl Tryd.underlying36 Tryd.underlying5 Tryd.underlying9 rfl HO.out ?_)
      go_ret2
      exact ⟨HB2.out, .inl ⟨r, HX.out.2, HX.out.1, rfl⟩⟩
    · have HB2 := Lib.hid (HB.out.trans (hb2.mono HB.out.size))
      have HX : Hid (∀ r, (∀ c ∈ r, c < 256) → bs s ≠ C.b64Of r) := C.b64_not (.inr (by rw [HD.out]; exact hu))
      have HT := Lib.hid (toldW p 11 w2 (HG.out.below HB2.out HG.out.lt))
      clear hb2 hu
      unfold TErr at HT ⊢
      go_wp2_with fail
      refine HT.out.mono ?_
      rintro e w3 ⟨rfl, hb3⟩
      have HB3 := Lib.hid (HB2.out.trans (hb3.mono HB2.out.size))
      clear hb3
      go_wp2_with fail
      go_ret2
      exact ⟨HB3.out, .inr ⟨HX.out, rfl⟩⟩
  · have HB := Lib.hid hb
    have HX : Hid (∀ r, (∀ c ∈ r, c < 256) → bs s ≠ C.b64Of r) := C.b64_not (.inl (not_in (by rw [HLN.out]; exact hnot)))
    have HT := Lib.hid (toldW p 11 w1 (HG.out.below HB.out HG.out.lt))
    clear hnot hb
    unfold TErr at HT ⊢
    go_wp2_with fail
    refine HT.out.mono ?_
    rintro e w3 ⟨rfl, hb3⟩
    have HB3 := Lib.hid (HB.out.trans (hb3.mono HB.out.size))
    clear hb3
    go_wp2_with fail
    go_ret2
    exact ⟨HB3.out, .inr ⟨HX.out, rfl⟩⟩
end Go.Proofs.YthdoeaiehajofaaDoor
