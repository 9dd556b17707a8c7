/- Walks of the program's disk: each call whole, refused or not. -/
import Derived.Test.YtamaefnlicloaaaDoorDWalk5
namespace Go.Proofs.YtamaefnlicloaaaDoor
open Go.RowKit
def Dk.out (D : Dk) (f : Int) : Bool := decide (f < 0 ∨ (D.l.length : Int) ≤ f)
def Dk.writeX (D : Dk) (f : Int) (s : ByteArray) : Dk × Int :=
  if D.dead = true then (D, 2) else if D.out f = true then (D, 160) else if 262144 < (rd (D.l.getD f.toNat Fl.zero)).size + s.size then (D, 161) else D.write f.toNat s
def Dk.syncX (D : Dk) (f : Int) : Dk × Int := if D.dead = true then (D, 2) else if D.out f = true then (D, 160) else D.sync f.toNat
def Dk.cutX (D : Dk) (f n : Int) : Dk × Int :=
  if D.dead = true then (D, 2) else if D.out f = true then (D, 160) else if 0 < (D.l.getD f.toNat Fl.zero).ws.length ∨ n < 0 ∨ ((D.l.getD f.toNat Fl.zero).safe.size : Int) < n then (D, 162) else D.cut f.toNat n.toNat
def Dk.readX (D : Dk) (f : Int) : ByteArray × Int := if D.dead = true then (⟨#[]⟩, 2) else if D.out f = true then (⟨#[]⟩, 160) else (rd (D.l.getD f.toNat Fl.zero), 0)
set_option maxHeartbeats 400000 in
theorem writeRef {b : Nat} {w : World} (f : Int) (s : ByteArray) (r : Int) (hr : (r != 0) = true) (h : Calls Tryd.prog 60 #[.pointer (some ⟨b, 0, none⟩), .int .i64 1, .int .i64 f, .int .i64 (s.size : Nat)] w fun e w' => e = .returned (.int .i64 r) ∧ Below w.heap.size w w') :
    Calls Tryd.prog 58 #[.pointer (some ⟨b, 0, none⟩), .int .i64 f, .string s] w fun e w' => e = .returned (.int .i64 r) ∧ Below w.heap.size w w' := by
  have H := Lib.hid h
  clear h
  go_enter Tryd.func58, Tryd.ntmps58
  go_wp2_with fail
  refine H.out.mono ?_
  rintro e w1 ⟨rfl, hb⟩
  go_wp2_with fail
  go_ret
  exact ⟨rfl, hb⟩
set_option maxHeartbeats 400000 in
theorem syncRef {b : Nat} {w : World} (f : Int) (r : Int) (hr : (r != 0) = true) (h : Calls Tryd.prog 60 #[.pointer (some ⟨b, 0, none⟩), .int .i64 2, .int .i64 f, .int .i64 0] w fun e w' => e = .returned (.int .i64 r) ∧ Below w.heap.size w w') :
    Calls Tryd.prog 43 #[.pointer (some ⟨b, 0, none⟩), .int .i64 f] w fun e w' => e = .returned (.int .i64 r) ∧ Below w.heap.size w w' := by
  have H := Lib.hid h
  clear h
  go_enter Tryd.func43, Tryd.ntmps43
  go_wp2_with fail
  refine H.out.mono ?_
  rintro e w1 ⟨rfl, hb⟩
  go_wp2_with fail
  go_ret
  exact ⟨rfl, hb⟩
set_option maxHeartbeats 400000 in
theorem cutRef {b : Nat} {w : World} (f n : Int) (r : Int) (hr : (r != 0) = true) (h : Calls Tryd.prog 60 #[.pointer (some ⟨b, 0, none⟩), .int .i64 0, .int .i64 f, .int .i64 n] w fun e w' => e = .returned (.int .i64 r) ∧ Below w.heap.size w w') :
    Calls Tryd.prog 47 #[.pointer (some ⟨b, 0, none⟩), .int .i64 f, .int .i64 n] w fun e w' => e = .returned (.int .i64 r) ∧ Below w.heap.size w w' := by
  have H := Lib.hid h
  clear h
  go_enter Tryd.func47, Tryd.ntmps47
  go_wp2_with fail
  refine H.out.mono ?_
  rintro e w1 ⟨rfl, hb⟩
  go_wp2_with fail
  go_ret
  exact ⟨rfl, hb⟩
set_option maxHeartbeats 400000 in
theorem readRef {b : Nat} {w : World} (f : Int) (r : Int) (hr : (r != 0) = true) (h : Calls Tryd.prog 60 #[.pointer (some ⟨b, 0, none⟩), .int .i64 2, .int .i64 f, .int .i64 0] w fun e w' => e = .returned (.int .i64 r) ∧ Below w.heap.size w w') :
    Calls Tryd.prog 46 #[.pointer (some ⟨b, 0, none⟩), .int .i64 f] w fun e w' => e = .returned (.tuple #[.string ⟨#[]⟩, .int .i64 r]) ∧ Below w.heap.size w w' := by
  have H := Lib.hid h
  clear h
  go_enter Tryd.func46, Tryd.ntmps46
  go_wp2_with fail
  refine H.out.mono ?_
  rintro e w1 ⟨rfl, hb⟩
  go_wp2_with fail
  go_ret2
  exact ⟨rfl, hb⟩
set_option maxHeartbeats 400000 in
theorem readOk {b g cap : Nat} {D : Dk} {w : World} (h : IsDisk w b g cap D) (hok : DOk D) (hd : D.dead = false) (f : Nat) (hf : f < D.l.length) :
    Calls Tryd.prog 46 #[.pointer (some ⟨b, 0, none⟩), .int .i64 (f : Nat)] w fun e w' => e = .returned (.tuple #[.string (rd (D.l.getD f Fl.zero)), .int .i64 0]) ∧ Below w.heap.size w w' := by
  have HR := Lib.hid (refRead h hd f hf 0)
  have h1 := h.cells.1
  have h2 := h.fs.len
  have h3 := h.fs.capm
  unfold maxLen at h3
  obtain ⟨v, h5, h6⟩ := h.fs.ws f hf
  have h4 := h.fs.safe f hf
  obtain ⟨x, hx⟩ : ∃ x, x = D.l.getD f Fl.zero := ⟨_, rfl⟩
  have h7 := hok.size f hf
  have h8 := hok.many f hf
  rw [← hx] at h4 h6 h7 h8 ⊢
  have HW := Lib.hid (readW x v w h6 (by omega) (by omega))
  clear h h6 hx hok h8 hd
  go_enter Tryd.func46, Tryd.ntmps46
  go_wp2_with fail
  refine HR.out.mono ?_
  rintro e w' ⟨rfl, rfl⟩
  go_wp2_with fail
  refine HW.out.mono ?_
  rintro e w' ⟨rfl, hb⟩
  go_wp2_with fail
  go_ret2
  exact ⟨rfl, hb⟩
section
variable {b g cap : Nat} {D : Dk} {w : World}
theorem out_cases {D : Dk} {f : Int} (h : D.out f = false) : ∃ n : Nat, f = n ∧ n < D.l.length := by
  have h1 : ¬ (f < 0 ∨ (D.l.length : Int) ≤ f) := of_decide_eq_false h
  exact ⟨f.toNat, by omega, by omega⟩
theorem same_below {e : Ending} {w' : World} {v : Value} (h : e = .returned v ∧ w = w') : e = .returned v ∧ Below w.heap.size w w' := ⟨h.1, h.2 ▸ Below.refl _ _⟩
theorem writeA (h : IsDisk w b g cap D) (hok : DOk D) (f : Int) (s : ByteArray) (hs : s.size ≤ 140737488355328) (hm : ∀ f, f < D.l.length → (D.l.getD f Fl.zero).ws.length < 1099511627776) :
    Calls Tryd.prog 58 #[.pointer (some ⟨b, 0, none⟩), .int .i64 f, .string s] w fun e w' => e = .returned (.int .i64 (D.writeX f s).2) ∧ IsDisk w' b g cap (D.writeX f s).1 ∧ Chg (fun k => k = b ∨ k = g) w w' := by
  have fin : ∀ r, D.writeX f s = (D, r) → ∀ e w', e = Ending.returned (.int .i64 r) ∧ Below w.heap.size w w' → e = .returned (.int .i64 (D.writeX f s).2) ∧ IsDisk w' b g cap (D.writeX f s).1 ∧ Chg (fun k => k = b ∨ k = g) w w' := fun r hr e w' ⟨h1, h2⟩ => by
    rw [hr]; exact ⟨h1, h.below h2, Chg.of_below _ h2⟩
  by_cases hd : D.dead = true
  · exact (writeRef f s 2 (by decide) ((refDead h hd 1 f s.size).mono fun _ _ => same_below)).mono (fin 2 (by unfold Dk.writeX; rw [if_pos hd]))
  · have hd0 : D.dead = false := by simpa using hd
    by_cases ho : D.out f = true
    · exact (writeRef f s 160 (by decide) ((refNo h hd0 1 (.inr (.inl rfl)) f (of_decide_eq_true ho) s.size).mono fun _ _ => same_below)).mono (fin 160 (by unfold Dk.writeX; rw [if_neg hd, if_pos ho]))
    · have ho0 : D.out f = false := by simpa using ho
      obtain ⟨n, rfl, hn⟩ := out_cases ho0
      have hw := refWrite h hok hd0 n hn s.size (by omega)
      by_cases hf : 262144 < (rd (D.l.getD n Fl.zero)).size + s.size
      · rw [if_pos hf] at hw
        exact (writeRef n s 161 (by decide) hw).mono (fin 161 (by unfold Dk.writeX; rw [if_neg hd, if_neg ho, Int.toNat_natCast, if_pos hf]))
      · have e : D.writeX (n : Int) s = D.write n s := by unfold Dk.writeX; rw [if_neg hd, if_neg ho, Int.toNat_natCast, if_neg hf]
        rw [e]
        exact writeW h hok hd0 n hn s (by omega) (hm n hn)
theorem syncA (h : IsDisk w b g cap D) (hok : DOk D) (f : Int) :
    Calls Tryd.prog 43 #[.pointer (some ⟨b, 0, none⟩), .int .i64 f] w fun e w' => e = .returned (.int .i64 (D.syncX f).2) ∧ IsDisk w' b g cap (D.syncX f).1 ∧ Chg (fun k => k = b ∨ k = g) w w' := by
  have fin : ∀ r, D.syncX f = (D, r) → ∀ e w', e = Ending.returned (.int .i64 r) ∧ Below w.heap.size w w' → e = .returned (.int .i64 (D.syncX f).2) ∧ IsDisk w' b g cap (D.syncX f).1 ∧ Chg (fun k => k = b ∨ k = g) w w' := fun r hr e w' ⟨h1, h2⟩ => by
    rw [hr]; exact ⟨h1, h.below h2, Chg.of_below _ h2⟩
  by_cases hd : D.dead = true
  · exact (syncRef f 2 (by decide) ((refDead h hd 2 f 0).mono fun _ _ => same_below)).mono (fin 2 (by unfold Dk.syncX; rw [if_pos hd]))
  · have hd0 : D.dead = false := by simpa using hd
    by_cases ho : D.out f = true
    · exact (syncRef f 160 (by decide) ((refNo h hd0 2 (.inr (.inr rfl)) f (of_decide_eq_true ho) 0).mono fun _ _ => same_below)).mono (fin 160 (by unfold Dk.syncX; rw [if_neg hd, if_pos ho]))
    · have ho0 : D.out f = false := by simpa using ho
      obtain ⟨n, rfl, hn⟩ := out_cases ho0
      have e : D.syncX (n : Int) = D.sync n := by unfold Dk.syncX; rw [if_neg hd, if_neg ho]; rfl
      rw [e]
      exact syncW h hok hd0 n hn
theorem cutA (h : IsDisk w b g cap D) (hok : DOk D) (f n : Int) :
    Calls Tryd.prog 47 #[.pointer (some ⟨b, 0, none⟩), .int .i64 f, .int .i64 n] w fun e w' => e = .returned (.int .i64 (D.cutX f n).2) ∧ IsDisk w' b g cap (D.cutX f n).1 ∧ Chg (fun k => k = b ∨ k = g) w w' := by
  have fin : ∀ r, D.cutX f n = (D, r) → ∀ e w', e = Ending.returned (.int .i64 r) ∧ Below w.heap.size w w' → e = .returned (.int .i64 (D.cutX f n).2) ∧ IsDisk w' b g cap (D.cutX f n).1 ∧ Chg (fun k => k = b ∨ k = g) w w' := fun r hr e w' ⟨h1, h2⟩ => by
    rw [hr]; exact ⟨h1, h.below h2, Chg.of_below _ h2⟩
  by_cases hd : D.dead = true
  · exact (cutRef f n 2 (by decide) ((refDead h hd 0 f n).mono fun _ _ => same_below)).mono (fin 2 (by unfold Dk.cutX; rw [if_pos hd]))
  · have hd0 : D.dead = false := by simpa using hd
    by_cases ho : D.out f = true
    · exact (cutRef f n 160 (by decide) ((refNo h hd0 0 (.inl rfl) f (of_decide_eq_true ho) n).mono fun _ _ => same_below)).mono (fin 160 (by unfold Dk.cutX; rw [if_neg hd, if_pos ho]))
    · have ho0 : D.out f = false := by simpa using ho
      obtain ⟨m, rfl, hm⟩ := out_cases ho0
      have fin2 := fun (hx : 0 < (D.l.getD m Fl.zero).ws.length ∨ n < 0 ∨ ((D.l.getD m Fl.zero).safe.size : Int) < n) => fin 162 (by unfold Dk.cutX; rw [if_neg hd, if_neg ho, Int.toNat_natCast, if_pos hx])
      by_cases h1 : 0 < (D.l.getD m Fl.zero).ws.length
      · exact (cutRef m n 162 (by decide) (refCut1 h hok hd0 m hm n h1)).mono (fin2 (.inl h1))
      by_cases h2 : n < 0
      · exact (cutRef m n 162 (by decide) (refCut2 h hok hd0 m hm n (by omega) h2)).mono (fin2 (.inr (.inl h2)))
      by_cases h3 : ((D.l.getD m Fl.zero).safe.size : Int) < n
      · exact (cutRef m n 162 (by decide) (refCut3 h hok hd0 m hm n (by omega) (by omega) h3)).mono (fin2 (.inr (.inr h3)))
      obtain ⟨k, rfl⟩ := Int.eq_ofNat_of_zero_le (show 0 ≤ n by omega)
      have e : D.cutX (m : Int) (k : Nat) = D.cut m k := by
        unfold Dk.cutX; rw [if_neg hd, if_neg ho, Int.toNat_natCast, Int.toNat_natCast, if_neg (by intro hx; rcases hx with h | h | h; exact h1 h; exact h2 h; exact h3 h)]
      rw [e]
      exact cutW h hok hd0 m hm k (by omega) (by omega)
theorem readA (h : IsDisk w b g cap D) (hok : DOk D) (f : Int) :
    Calls Tryd.prog 46 #[.pointer (some ⟨b, 0, none⟩), .int .i64 f] w fun e w' => e = .returned (.tuple #[.string (D.readX f).1, .int .i64 (D.readX f).2]) ∧ Below w.heap.size w w' := by
  by_cases hd : D.dead = true
  · have e : D.readX f = (⟨#[]⟩, 2) := by unfold Dk.readX; rw [if_pos hd]
    rw [e]
    exact readRef f 2 (by decide) ((refDead h hd 2 f 0).mono fun _ _ => same_below)
  · have hd0 : D.dead = false := by simpa using hd
    by_cases ho : D.out f = true
    · have e : D.readX f = (⟨#[]⟩, 160) := by unfold Dk.readX; rw [if_neg hd, if_pos ho]
      rw [e]
      exact readRef f 160 (by decide) ((refNo h hd0 2 (.inr (.inr rfl)) f (of_decide_eq_true ho) 0).mono fun _ _ => same_below)
    · have ho0 : D.out f = false := by simpa using ho
      obtain ⟨n, rfl, hn⟩ := out_cases ho0
      have e : D.readX (n : Int) = (rd (D.l.getD n Fl.zero), 0) := by unfold Dk.readX; rw [if_neg hd, if_neg ho]; rfl
      rw [e]
      exact readOk h hok hd0 n hn
/-- Crash, refused or not. -/
def Dk.crashX (D : Dk) (css : List (List Int)) : Dk × Int := if D.dead = true then (D, 2) else (D.died css, 0)
theorem crashA (h : IsDisk w b g cap D) (hok : DOk D) (cv : Value) (css : List (List Int)) (hcs : Rss w cv css) (hcl : ∀ i, (css.getD i []).length ≤ 140737488355328) :
    Calls Tryd.prog 28 #[.pointer (some ⟨b, 0, none⟩), cv] w fun e w' => e = .returned (.int .i64 (D.crashX css).2) ∧ IsDisk w' b g cap (D.crashX css).1 ∧ Chg (fun k => k = b ∨ k = g) w w' := by
  by_cases hd : D.dead = true
  · have e : D.crashX css = (D, 2) := by unfold Dk.crashX; rw [if_pos hd]
    rw [e]
    refine (crashDead h hd cv).mono fun e w' ⟨h1, h2⟩ => ?_
    subst h2
    exact ⟨h1, h, Chg.refl _ _⟩
  · have e : D.crashX css = (D.died css, 0) := by unfold Dk.crashX; rw [if_neg hd]
    rw [e]
    exact crashW h hok (by simpa using hd) cv css hcs hcl
end
end Go.Proofs.YtamaefnlicloaaaDoor
