/- The walk of fixed. -/
import Derived.Test.YtilpbjcbffbjeaaDoorPkD
namespace Go.Proofs.YtilpbjcbffbjeaaDoor
set_option linter.unusedVariables false
open Go.RowKit
def fe : ByteArray := ⟨#[]⟩
def fab : ByteArray := ⟨#[97, 98]⟩
def fcd : ByteArray := ⟨#[99, 100]⟩
def fx : ByteArray := ⟨#[120]⟩
def fabc : ByteArray := ⟨#[97, 98, 99]⟩
def fabcd : ByteArray := ⟨#[97, 98, 99, 100]⟩
def F0 : Dk := dk0 [⟨fe, []⟩, ⟨fe, []⟩]
def F1 : Dk := dk0 [⟨fe, [fab]⟩, ⟨fe, []⟩]
def F2 : Dk := dk0 [⟨fe, [fab, fcd]⟩, ⟨fe, []⟩]
def F3 : Dk := dk0 [⟨fabcd, []⟩, ⟨fe, []⟩]
def F4 : Dk := ⟨[⟨fabcd, []⟩, ⟨fe, []⟩], 0, [], true⟩
def F6 : Dk := dk0 [⟨fabc, []⟩, ⟨fe, []⟩]
def F7 : Dk := ⟨[⟨fabc, []⟩, ⟨fe, []⟩], 1, [], false⟩
def F8 : Dk := ⟨[⟨fabc, []⟩, ⟨fe, []⟩], 0, [], true⟩
theorem fx0 : newErr [fe, fe] = 0 := by decide
theorem fx1 : F0.writeX 0 fab = (F1, 0) := by kernel_rfl
theorem fx2 : F1.writeX 0 fcd = (F2, 0) := by kernel_rfl
theorem fx3 : F2.writeX 2 fx = (F2, 160) := by kernel_rfl
theorem fx4 : (rd (F2.l.getD 0 Fl.zero)).size = 4 := by kernel_rfl
theorem fx5 : (F2.l.getD 0 Fl.zero).ws.length = 2 := by kernel_rfl
theorem fx6 : F2.cutX 0 1 = (F2, 162) := by kernel_rfl
theorem fx7 : F2.after [] = [fe, fe] := by kernel_rfl
theorem fx8 : F2.after [[0, 9]] = [⟨#[0, 0, 99, 100]⟩, fe] := by kernel_rfl
theorem fx9 : F2.after [[1, 1]] = [⟨#[97, 0, 99]⟩, fe] := by kernel_rfl
theorem fx10 : F2.syncX 0 = (F3, 0) := by kernel_rfl
theorem fx11 : F3.crashX [] = (F4, 0) := by kernel_rfl
theorem fx12 : F4.readX 0 = (fe, 2) := by kernel_rfl
theorem fx13 : F3.cutX 0 3 = (F6, 0) := by kernel_rfl
theorem fx14 : F7.writeX 1 fx = (F8, 2) := by kernel_rfl
theorem fx15 : F6.readX 0 = (fabc, 0) := by kernel_rfl
theorem fx16 : (rd (F6.l.getD 1 Fl.zero)).size = 0 := by kernel_rfl
theorem okF (D : Dk) (h1 : D.l.length = 2) (h2 : (rd (D.l.getD 0 Fl.zero)).size ≤ 262144) (h3 : (rd (D.l.getD 1 Fl.zero)).size ≤ 262144) (h4 : (D.l.getD 0 Fl.zero).ws.length ≤ 2) (h5 : (D.l.getD 1 Fl.zero).ws.length ≤ 2) (h6 : D.armed ≤ 1) (h7 : D.ch = []) : DOk D := by
  refine ⟨by omega, by omega, fun f hf => ?_, fun f hf => ?_, by omega, fun i => by rw [h7]; exact Nat.zero_le _⟩
  · match f, (show f < 2 by omega) with
    | 0, _ => exact h2
    | 1, _ => exact h3
  · match f, (show f < 2 by omega) with
    | 0, _ => omega
    | 1, _ => omega
theorem okF0 : DOk F0 := okF _ rfl (by decide) (by decide) (by decide) (by decide) (by decide) rfl
theorem okF1 : DOk F1 := okF _ rfl (by decide) (by decide) (by decide) (by decide) (by decide) rfl
theorem okF2 : DOk F2 := okF _ rfl (by decide) (by decide) (by decide) (by decide) (by decide) rfl
theorem okF3 : DOk F3 := okF _ rfl (by decide) (by decide) (by decide) (by decide) (by decide) rfl
theorem okF4 : DOk F4 := okF _ rfl (by decide) (by decide) (by decide) (by decide) (by decide) rfl
theorem okF6 : DOk F6 := okF _ rfl (by decide) (by decide) (by decide) (by decide) (by decide) rfl
theorem okF7 : DOk F7 := okF _ rfl (by decide) (by decide) (by decide) (by decide) (by decide) rfl
theorem okF8 : DOk F8 := okF _ rfl (by decide) (by decide) (by decide) (by decide) (by decide) rfl
theorem manyF (D : Dk) (h : DOk D) (h1 : D.l.length = 2) (h4 : (D.l.getD 0 Fl.zero).ws.length ≤ 2) (h5 : (D.l.getD 1 Fl.zero).ws.length ≤ 2) : ∀ f, f < D.l.length → (D.l.getD f Fl.zero).ws.length < 1099511627776 := fun f hf => by
  match f, (show f < 2 by omega) with
  | 0, _ => omega
  | 1, _ => omega
section
variable {B b g cap : Nat} {w w1 : World} {D D' : Dk}
theorem At.writeF (h : At B w b g cap D w1) (hok : DOk D) (hl : D.l.length = 2) (h4 : (D.l.getD 0 Fl.zero).ws.length ≤ 2) (h5 : (D.l.getD 1 Fl.zero).ws.length ≤ 2) (f : Int) (s : ByteArray) (hs : s.size ≤ 4) (r : Int) (e : D.writeX f s = (D', r)) :
    Calls Tryd.prog 39 #[.pointer (some ⟨b, 0, none⟩), .int .i64 f, .string s] w1 fun e w' => e = .returned (.int .i64 r) ∧ At B w b g cap D' w' :=
  (writeA h.disk hok f s (by omega) (manyF D hok hl h4 h5)).mono fun e' w' ⟨h1, h2, h3⟩ => by rw [e] at h1 h2; exact ⟨h1, h.chg h2 h3⟩
theorem At.syncF (h : At B w b g cap D w1) (hok : DOk D) (f : Int) (r : Int) (e : D.syncX f = (D', r)) :
    Calls Tryd.prog 33 #[.pointer (some ⟨b, 0, none⟩), .int .i64 f] w1 fun e w' => e = .returned (.int .i64 r) ∧ At B w b g cap D' w' :=
  (syncA h.disk hok f).mono fun e' w' ⟨h1, h2, h3⟩ => by rw [e] at h1 h2; exact ⟨h1, h.chg h2 h3⟩
theorem At.cutF (h : At B w b g cap D w1) (hok : DOk D) (f n : Int) (r : Int) (e : D.cutX f n = (D', r)) :
    Calls Tryd.prog 36 #[.pointer (some ⟨b, 0, none⟩), .int .i64 f, .int .i64 n] w1 fun e w' => e = .returned (.int .i64 r) ∧ At B w b g cap D' w' :=
  (cutA h.disk hok f n).mono fun e' w' ⟨h1, h2, h3⟩ => by rw [e] at h1 h2; exact ⟨h1, h.chg h2 h3⟩
theorem At.crashF (h : At B w b g cap D w1) (hok : DOk D) (cv : Value) (css : List (List Int)) (hcs : Rss w1 cv css) (hcl : ∀ i, (css.getD i []).length ≤ 1048576) (r : Int) (e : D.crashX css = (D', r)) :
    Calls Tryd.prog 27 #[.pointer (some ⟨b, 0, none⟩), cv] w1 fun e w' => e = .returned (.int .i64 r) ∧ At B w b g cap D' w' :=
  (crashA h.disk hok cv css hcs (fun i => by have := hcl i; omega)).mono fun e' w' ⟨h1, h2, h3⟩ => by rw [e] at h1 h2; exact ⟨h1, h.chg h2 h3⟩
theorem At.readF (h : At B w b g cap D w1) (hok : DOk D) (f : Int) (s : ByteArray) (r : Int) (e : D.readX f = (s, r)) :
    Calls Tryd.prog 10 #[.pointer (some ⟨b, 0, none⟩), .int .i64 f] w1 fun e w' => e = .returned (.tuple #[.string s, .int .i64 r]) ∧ At B w b g cap D w' :=
  (readA h.disk hok f).mono fun e' w' ⟨h1, h2⟩ => by rw [e] at h1; exact ⟨h1, h.grow h2⟩
theorem At.sizeF (h : At B w b g cap D w1) (hok : DOk D) (f : Nat) (hf : f < D.l.length) :
    Calls Tryd.prog 32 #[.pointer (some ⟨b, 0, none⟩), .int .i64 (f : Nat)] w1 fun e w' => e = .returned (.int .i64 ((rd (D.l.getD f Fl.zero)).size : Nat)) ∧ At B w b g cap D w' :=
  (sizeYes h.disk hok f hf).mono fun e' w' ⟨h1, h2⟩ => ⟨h1, h.grow h2⟩
theorem At.reviveF (h : At B w b g cap D w1) :
    Calls Tryd.prog 28 #[.pointer (some ⟨b, 0, none⟩)] w1 fun e w' => e = .returned (.tuple #[]) ∧ At B w b g cap ⟨D.l, 0, D.ch, false⟩ w' :=
  (reviveW h.disk).mono fun e' w' ⟨h1, h2, h3⟩ => ⟨h1, h.chg h2 (h3.mono fun k _ hk => .inl hk)⟩
theorem At.filesF (h : At B w b g cap D w1) (hok : DOk D) :
    Calls Tryd.prog 17 #[.pointer (some ⟨b, 0, none⟩)] w1 fun e w' => ∃ v, e = .returned v ∧ WS w' v D.files ∧ At B w b g cap D w' ∧ Below w1.heap.size w1 w' :=
  (filesW h.disk hok).mono fun e' w' ⟨v, h1, h2, h3⟩ => ⟨v, h1, h2.ws, h.grow h3, h3⟩
theorem At.afterF (h : At B w b g cap D w1) (hok : DOk D) (cv : Value) (css : List (List Int)) (hcs : Rss w1 cv css) (hcl : ∀ i, (css.getD i []).length ≤ 1048576) :
    Calls Tryd.prog 72 #[.pointer (some ⟨b, 0, none⟩), cv] w1 fun e w' => ∃ v, e = .returned v ∧ WS w' v (D.after css) ∧ At B w b g cap D w' ∧ Below w1.heap.size w1 w' :=
  (afterW h.disk hok cv css hcs (fun i => by have := hcl i; omega)).mono fun e' w' ⟨v, h1, h2, h3⟩ => ⟨v, h1, h2.ws, h.grow h3, h3⟩
end
end Go.Proofs.YtilpbjcbffbjeaaDoor
