/- An audit's log over a disk whose power stays: its calls. -/
import Derived.Test.YtilpbjcbffbjeaaGreatDoorACalls
namespace Go.Proofs.YtilpbjcbffbjeaaGreatDoor
set_option linter.unusedVariables false
set_option maxRecDepth 100000
open Go.RowKit
/-- Few writes wait. -/
def Few (D : Dk) : Prop := ∀ j, j < D.l.length → (D.l.getD j Fl.zero).ws.length ≤ 262144
theorem Few.many {D : Dk} (h : Few D) : Many D := fun j hj => by have := h j hj; omega
theorem AliveA.few {D D' : Dk} {f k : Nat} {ss : List ByteArray} (a : AliveA D D' f) (h : Few D) (hx : AC (D'.l.getD f Fl.zero) ss k) (hf : f < D.l.length) : Few D' := by
  intro j hj
  rw [a.len] at hj
  by_cases e : j = f
  · subst e
    have h1 := hx.many
    have h2 := hx.few (a.ok.size j (by rw [a.len]; exact hf))
    omega
  · rw [a.other j e]; exact h j hj
/-- How many bytes texts are in a file. -/
def zT (ss : List ByteArray) : Nat := lens (pays (ss.map bs))
theorem zT_nil : zT [] = 0 := rfl
theorem zT_snoc (ss : List ByteArray) (T : ByteArray) : zT (ss ++ [T]) = zT ss + (51 + T.size) := lens_pays_snoc ss T
/-- What a text is answered, where the power stays; the texts behind it. -/
def aRes (quota : Int) (ss : List ByteArray) (T : ByteArray) : Int := if 1024 < T.size then 190 else if aroom quota (zT ss) < (T.size : Int) then 191 else 0
def aTx (quota : Int) (ss : List ByteArray) (T : ByteArray) : List ByteArray := if aRes quota ss T = 0 then ss ++ [T] else ss
theorem aRes_ok {quota : Int} {ss : List ByteArray} {T : ByteArray} (h : T.size ≤ 1024) (hr : (zT ss : Int) + 51 + T.size ≤ quota) : aRes quota ss T = 0 := by
  unfold aRes aroom; rw [if_neg (by omega), if_neg (by omega)]
theorem aRes_full {quota : Int} {ss : List ByteArray} {T : ByteArray} (h : T.size ≤ 1024) (hr : quota < (zT ss : Int) + 51 + T.size) : aRes quota ss T = 191 := by
  unfold aRes aroom; rw [if_neg (by omega), if_pos (by omega)]
theorem aTx_ok {quota : Int} {ss : List ByteArray} {T : ByteArray} (h : aRes quota ss T = 0) : aTx quota ss T = ss ++ [T] := if_pos h
theorem aTx_no {quota : Int} {ss : List ByteArray} {T : ByteArray} (h : aRes quota ss T ≠ 0) : aTx quota ss T = ss := if_neg h
/-- A log that lives, over a disk whose power stays. -/
structure ASt (B : Nat) (w0 : World) (b g cap lb f : Nat) (quota : Int) (ss : List ByteArray) (k : Nat) (D : Dk) (w : World) : Prop where
  on : At B w0 b g cap D w
  log : IsAL w lb b f quota ss false
  ok : DOk D
  al : D.dead = false
  ar : D.armed = 0
  hf : f < D.l.length
  ac : AC (D.l.getD f Fl.zero) ss k
  q : 0 ≤ quota ∧ quota ≤ 262144
  lB : B ≤ lb
  few : Few D
section
variable {B b g cap lb f k : Nat} {w0 w w' : World} {quota : Int} {ss : List ByteArray} {D D' : Dk}
theorem ASt.hz (h : ASt B w0 b g cap lb f quota ss k D w) : (rd (D.l.getD f Fl.zero)).size = zT ss := h.ac.size
theorem ASt.z (h : ASt B w0 b g cap lb f quota ss k D w) : zT ss ≤ 262144 := by rw [← h.hz]; exact h.ok.size f h.hf
theorem ASt.n (h : ASt B w0 b g cap lb f quota ss k D w) : 19 * ss.length ≤ 262144 := h.ac.few (h.ok.size f h.hf)
theorem ASt.grow (h : ASt B w0 b g cap lb f quota ss k D w) (hb : Below w.heap.size w w') : ASt B w0 b g cap lb f quota ss k D w' :=
  ⟨h.on.grow hb, h.log.below hb, h.ok, h.al, h.ar, h.hf, h.ac, h.q, h.lB, h.few⟩
theorem At.chg3 {B b g cap lb : Nat} {w0 w w' : World} {D D' : Dk} (h : At B w0 b g cap D w) (hd : IsDisk w' b g cap D') (hl : B ≤ lb) (hc : Chg (fun k => k = lb ∨ k = b ∨ k = g) w w') : At B w0 b g cap D' w' := by
  have h1 := h.bB
  have h2 := h.gB
  exact ⟨hd, h.below.trans (hc.below (Nat.le_trans h.le h.below.size) (fun k hk hS => by omega)), h.bB, h.gB, h.le⟩
theorem ASt.app (h : ASt B w0 b g cap lb f quota ss k D w) (T : ByteArray) :
    Calls Tryz.prog 17 #[.pointer (some ⟨lb, 0, none⟩), .string T] w fun e w' => e = .returned (.int .i64 (aRes quota ss T)) ∧ ∃ D', ASt B w0 b g cap lb f quota (aTx quota ss T) k D' w' ∧ Chg (fun k => k = lb ∨ k = b ∨ k = g) w w' ∧ AliveA D D' f := by
  refine (aappR h.log h.on.disk h.ok h.al h.hf h.ac h.few.many h.q T).mono ?_
  rintro e w' ⟨r, D', ss', dd, rfl, hl, hd, hc, hr⟩
  have hat := h.on.chg3 hd h.lB hc
  have hz := h.hz
  have hself : AliveA D D f := ⟨h.ok, h.al, rfl, fun h => h, rfl, fun _ _ => rfl⟩
  cases hr with
  | long h1 =>
    have e : aRes quota ss T = 190 := by unfold aRes; rw [if_pos h1]
    rw [aTx_no (by rw [e]; decide), e]
    exact ⟨rfl, D, ⟨hat, hl, h.ok, h.al, h.ar, h.hf, h.ac, h.q, h.lB, h.few⟩, hc, hself⟩
  | full h1 h2 =>
    rw [hz] at h2
    have e : aRes quota ss T = 191 := by unfold aRes; rw [if_neg (by omega), if_pos h2]
    rw [aTx_no (by rw [e]; decide), e]
    exact ⟨rfl, D, ⟨hat, hl, h.ok, h.al, h.ar, h.hf, h.ac, h.q, h.lB, h.few⟩, hc, hself⟩
  | ok _ h1 h2 h3 h4 =>
    rw [hz] at h2
    have e : aRes quota ss T = 0 := by unfold aRes; rw [if_neg (by omega), if_neg h2]
    rw [aTx_ok e, e]
    exact ⟨rfl, D', ⟨hat, hl, h3.ok, h3.al, h3.ar h.ar, by rw [h3.len]; exact h.hf, h4, h.q, h.lB, h3.few h.few h4 h.hf⟩, hc, h3⟩
  | gone _ h1 h2 h3 => exact absurd h.ar h3.ar
theorem ASt.syn (h : ASt B w0 b g cap lb f quota ss k D w) :
    Calls Tryz.prog 18 #[.pointer (some ⟨lb, 0, none⟩)] w fun e w' => e = .returned (.int .i64 0) ∧ ∃ D', ASt B w0 b g cap lb f quota ss ss.length D' w' ∧ Chg (fun k => k = lb ∨ k = b ∨ k = g) w w' ∧ AliveA D D' f := by
  refine (asynR h.log h.on.disk h.ok h.al h.hf h.ac).mono ?_
  rintro e w' ⟨r, D', dd, rfl, hl, hd, hc, hr⟩
  have hat := h.on.chg3 hd h.lB hc
  cases hr with
  | ok _ h3 h4 => exact ⟨rfl, D', ⟨hat, hl, h3.ok, h3.al, h3.ar h.ar, by rw [h3.len]; exact h.hf, h4, h.q, h.lB, h3.few h.few h4 h.hf⟩, hc, h3⟩
  | gone _ h3 => exact absurd h.ar h3.ar
theorem ASt.room (h : ASt B w0 b g cap lb f quota ss k D w) : Calls Tryz.prog 59 #[.pointer (some ⟨lb, 0, none⟩)] w fun e w' => e = .returned (.int .i64 (aroom quota (zT ss))) ∧ Below w.heap.size w w' := by
  have hz := h.hz
  obtain ⟨v, h1, h2⟩ := h.log
  have := aroomW h1 h.on.disk h.ok h.hf rfl rfl h.q
  rw [hz] at this
  exact this
theorem ASt.link (h : ASt B w0 b g cap lb f quota ss k D w) : Calls Tryz.prog 34 #[.pointer (some ⟨lb, 0, none⟩)] w fun e w' => e = .returned (.string (strOf (linkL (ss.map bs)))) ∧ w' = w := by
  obtain ⟨v, h1, h2⟩ := h.log
  exact alinkW h1
theorem ASt.texts (h : ASt B w0 b g cap lb f quota ss k D w) : Calls Tryz.prog 23 #[.pointer (some ⟨lb, 0, none⟩)] w fun e w' => ∃ p, e = .returned (.slice p ss.length ss.length) ∧ Strs w' (.slice p ss.length ss.length) ss ∧ Below w.heap.size w w' := by
  have := h.n
  obtain ⟨v, h1, h2⟩ := h.log
  exact atextsW h1 h2.strs (by omega)
theorem ASt.read (h : ASt B w0 b g cap lb f quota ss k D w) : Calls Tryz.prog 33 #[.pointer (some ⟨b, 0, none⟩), .int .i64 (f : Nat)] w fun e w' => e = .returned (.tuple #[.string (strOf (recsL 0 (pays (ss.map bs)))), .int .i64 0]) ∧ Below w.heap.size w w' := by
  have h1 := readA h.on.disk h.ok (f : Nat)
  rw [show D.readX (f : Nat) = (rd (D.l.getD f Fl.zero), 0) by unfold Dk.readX; rw [if_neg (by rw [h.al]; exact Bool.false_ne_true), if_neg (by have := h.hf; unfold Dk.out; simp; omega)]; rfl] at h1
  rw [← h.ac.rdL]
  exact h1
/-- Another log on the same disk stays as it is. -/
theorem ASt.beside {lb2 f2 k2 : Nat} {q2 : Int} {ss2 ss2' : List ByteArray} (h : ASt B w0 b g cap lb f quota ss k D w) (hc : Chg (fun k => k = lb2 ∨ k = b ∨ k = g) w w') (h2 : IsAL w lb2 b f2 q2 ss2 false) (a : AliveA D D' f2) (h2' : ASt B w0 b g cap lb2 f2 q2 ss2' k2 D' w') (hl : lb ≠ lb2) (hf : f ≠ f2) :
    ASt B w0 b g cap lb f quota ss k D' w' := by
  have hn := h.log.ne h.on.disk
  exact ⟨h2'.on, h.log.keep hc (by omega) (h2.muts3 h.on.disk), h2'.ok, h2'.al, h2'.ar, by rw [a.len]; exact h.hf, by rw [a.other f hf]; exact h.ac, h.q, h.lB, h2'.few⟩
/-- An opening of a file, where the power stays. -/
theorem At.aopenU (h : At B w0 b g cap D w) (hok : DOk D) (al : D.dead = false) (ar : D.armed = 0) (hf : f < D.l.length) (hx : ARest ⟨rd (D.l.getD f Fl.zero), []⟩ ss) (hq : 0 ≤ quota ∧ quota ≤ 262144) (few : Few D) :
    Calls Tryz.prog 12 #[.pointer (some ⟨b, 0, none⟩), .int .i64 (f : Nat), .int .i64 quota] w fun e w' => ∃ lb D', e = .returned (.tuple #[.pointer (some ⟨lb, 0, none⟩), .int .i64 0]) ∧ w.heap.size ≤ lb ∧
      ASt B w0 b g cap lb f quota ss ss.length D' w' ∧ Chg (fun k => k = b ∨ k = g) w w' ∧ AliveA D D' f := by
  refine (aopenR h.disk hok al hf hx hq).mono ?_
  rintro e w' ⟨D', hd, hc, ⟨_, hr⟩ | ⟨lb, rfl, hlb, hl, hr⟩⟩
  · cases hr with
    | gone h1 => exact absurd ar h1.ar
  · cases hr with
    | ok h3 h4 h5 => exact ⟨lb, D', rfl, hlb, ⟨h.chg hd hc, hl, h3.ok, h3.al, h3.ar ar, by rw [h3.len]; exact hf, h4, hq, Nat.le_trans h.le (Nat.le_trans h.below.size hlb), h3.few few h4 hf⟩, hc, h3⟩
/-- A log stays while another file is opened. -/
theorem ASt.besideO {f2 k2 lb2 : Nat} {q2 : Int} {ss2 : List ByteArray} (h : ASt B w0 b g cap lb f quota ss k D w) (hc : Chg (fun k => k = b ∨ k = g) w w') (a : AliveA D D' f2) (h2' : ASt B w0 b g cap lb2 f2 q2 ss2 k2 D' w') (hf : f ≠ f2) : ASt B w0 b g cap lb f quota ss k D' w' := by
  have hn := h.log.ne h.on.disk
  exact ⟨h2'.on, h.log.keep hc (by omega) h.on.disk.muts, h2'.ok, h2'.al, h2'.ar, by rw [a.len]; exact h.hf, by rw [a.other f hf]; exact h.ac, h.q, h.lB, h2'.few⟩
end
end Go.Proofs.YtilpbjcbffbjeaaGreatDoor
