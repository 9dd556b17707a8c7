/- The lives of the law StoreLives, as they come in. -/
import Derived.Test.YtilpbjcbffbjeaaGreatDoorSLvP
namespace Go.Proofs.YtilpbjcbffbjeaaGreatDoor
set_option linter.unusedVariables false
structure Slf where
  tens : List Int
  texts : List ByteArray
  n : Int
  ag : Int
  css : List (List Int)
def Slf.zero : Slf := ⟨[], [], 0, 0, []⟩
structure SlfOk (x : Slf) : Prop where
  h : x.tens.length ≤ 1048576
  t : x.texts.length ≤ 1048576
  c : x.css.length ≤ 1048576
  cs : ∀ i, (x.css.getD i []).length ≤ 1048576
  n : x.n ≤ 9223372036854775807
  ag : x.ag ≤ 9223372036854775807
/-- Lives that came in. -/
def SLifes (w : World) (v : Value) (ls : List Slf) : Prop :=
  ∃ p cap, v = .slice p ls.length cap ∧ ∀ i, i < ls.length → ∃ b off hv tv cv, p = some ⟨b, off, none⟩ ∧ w.cell? ⟨b, off + i * 5, none⟩ = some hv ∧ w.cell? ⟨b, off + i * 5 + 1, none⟩ = some tv ∧ w.cell? ⟨b, off + i * 5 + 2, none⟩ = some (.int .i64 (ls.getD i Slf.zero).n) ∧
    w.cell? ⟨b, off + i * 5 + 3, none⟩ = some (.int .i64 (ls.getD i Slf.zero).ag) ∧ w.cell? ⟨b, off + i * 5 + 4, none⟩ = some cv ∧
    Ints w hv (ls.getD i Slf.zero).tens ∧ Strs w tv (ls.getD i Slf.zero).texts ∧ Rss w cv (ls.getD i Slf.zero).css
/-- How many texts there are. -/
def stot : List Slf → Nat
  | [] => 0
  | x :: l => x.texts.length + stot l
theorem stot_take (l : List Slf) : ∀ i, i < l.length → stot (l.take (i + 1)) = stot (l.take i) + (l.getD i Slf.zero).texts.length := by
  induction l with
  | nil => intro i h; simp at h
  | cons x l ih =>
    intro i h
    cases i with
    | zero => simp [stot]
    | succ i =>
      have := ih i (by simpa using h)
      rw [List.take_succ_cons, List.take_succ_cons, stot, stot, this]
      simp; omega
theorem stot_le (l : List Slf) : ∀ i, stot (l.take i) ≤ stot l := by
  induction l with
  | nil => intro i; simp [stot]
  | cons x l ih =>
    intro i
    cases i with
    | zero => simp [stot]
    | succ i => rw [List.take_succ_cons, stot, stot]; have := ih i; omega
end Go.Proofs.YtilpbjcbffbjeaaGreatDoor
