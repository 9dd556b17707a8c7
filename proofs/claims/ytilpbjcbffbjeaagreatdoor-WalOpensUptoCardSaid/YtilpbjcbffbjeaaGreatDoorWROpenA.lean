/- The document's Open, by cases. -/
import Derived.Test.YtilpbjcbffbjeaaGreatDoorWROpen3
import Derived.Test.YtilpbjcbffbjeaaGreatDoorWROpen4
namespace Go.Proofs.YtilpbjcbffbjeaaGreatDoor
set_option linter.unusedVariables false
set_option maxRecDepth 100000
open Go.RowKit
section
variable {B b g cap : Nat} {w0 w w' : World} {D : Dk}
theorem cutX_two {D D3 : Dk} (hok : DOk D) (hd : D.dead = false) (c f : Int) (e : D.cutX c f = (D3, 2)) : DOk D3 ∧ D3.l.length = D.l.length := by
  unfold Dk.cutX at e
  rw [if_neg (by rw [hd]; exact Bool.false_ne_true)] at e
  by_cases h1 : D.out c = true
  · rw [if_pos h1] at e; exact absurd (congrArg Prod.snd e) (by dsimp only; decide)
  rw [if_neg h1] at e
  by_cases h2 : 0 < (D.l.getD c.toNat Fl.zero).ws.length ∨ f < 0 ∨ ((D.l.getD c.toNat Fl.zero).safe.size : Int) < f
  · rw [if_pos h2] at e; exact absurd (congrArg Prod.snd e) (by dsimp only; decide)
  rw [if_neg h2] at e
  unfold Dk.cut at e
  by_cases h3 : D.armed = 1
  · rw [if_pos h3] at e
    have e1 := congrArg Prod.fst e
    dsimp only at e1
    rw [← e1]
    refine ⟨hok.tick.died _, ?_⟩
    show ((D.tick.after D.ch).map _).length = _
    rw [List.length_map, length_after]; rfl
  · rw [if_neg h3] at e; exact absurd (congrArg Prod.snd e) (by dsimp only; decide)
theorem pkOf_eq (D2 : Dk) (f : Nat) : pkOf D2 f = ((Pk.zero f).next f (rd (D2.l.getD f Fl.zero))).next (f + 1) (rd (D2.l.getD (f + 1) Fl.zero)) := rfl
theorem ropenSome (h : IsR B w0 w b g cap D) (hok : DOk D) (f : Nat) (D1 D2 : Dk) (s : Syn D f D1 D2) (hg : 0 < (pkOf D2 f).gen) (D3 : Dk) (r3 : Int)
    (e3 : (pkOf D2 f).fin + lens (rsOf (pkOf D2 f)) < (pkOf D2 f).bytes.size → D2.cutX ((pkOf D2 f).counts : Nat) (((pkOf D2 f).fin + lens (rsOf (pkOf D2 f)) : Nat) : Int) = (D3, r3)) (e3' : ¬ (pkOf D2 f).fin + lens (rsOf (pkOf D2 f)) < (pkOf D2 f).bytes.size → D3 = D2 ∧ r3 = 0) (k3 : DOk D3) (hl3 : D3.l.length = D.l.length)
    (o z : Nat) (ho : 2 * (f : Int) + 1 - ((pkOf D2 f).counts : Int) = (o : Nat)) (hz : z = (rd (D3.l.getD o Fl.zero)).size) (D4 : Dk) (r4 : Int) (e4 : 0 < z → D3.cutX (o : Nat) 0 = (D4, r4)) (e4' : ¬ 0 < z → D4 = D3 ∧ r4 = 0) (D' : Dk) (r : OR)
    (E1 : r3 ≠ 0 → D' = D3 ∧ r = .err 2) (E2 : r3 = 0 → r4 ≠ 0 → D' = D4 ∧ r = .err 2) (L' : Lg) (E3 : r3 = 0 → r4 = 0 → D' = D4 ∧ r = .ok L' (pkOf D2 f).snap (rsOf (pkOf D2 f))) :
    Calls Tryz.prog 79 #[.pointer (some ⟨b, 0, none⟩), .int .i64 (f : Nat)] w (RoPost B w0 w b D' r) := by
  obtain ⟨A, ha⟩ : ∃ A, rd (D2.l.getD f Fl.zero) = A := ⟨_, rfl⟩
  obtain ⟨C, hc⟩ : ∃ C, rd (D2.l.getD (f + 1) Fl.zero) = C := ⟨_, rfl⟩
  have hX := pkAt_fin f A C 2
  have hpe := pkOf_eq D2 f
  have hpf : (pkOf D2 f).fin ≤ (pkOf D2 f).bytes.size := pkAt_fin _ _ _ _
  rw [ha, hc] at hpe
  obtain ⟨rs, hrs⟩ : ∃ rs, rs = rsOf (pkOf D2 f) := ⟨_, rfl⟩
  rw [← hrs] at e3 e3' E3
  unfold rsOf at hrs
  obtain ⟨p, hp⟩ : ∃ p, p = pkOf D2 f := ⟨_, rfl⟩
  rw [← hp] at hg e3 e3' ho E3 hpe hpf hrs
  rcases hA : whole (bs A) with _ | ⟨n1, q1⟩
  · rw [Pk.next_none _ _ _ hA] at hpe
    rcases hC : whole (bs C) with _ | ⟨n2, q2⟩
    · rw [Pk.next_none _ _ _ hC] at hpe
      rw [hpe] at hg; exact absurd hg (Nat.lt_irrefl 0)
    · have hn2 := whole_some (bs_lt C) hC
      rw [Pk.next_more _ _ _ hC (by show 0 < n2; omega)] at hpe
      subst hpe
      exact ropenSecond h hok f D1 D2 s A C ha hc n2 q2 hA hC _ _ _ _ _ rfl rfl rfl rfl rfl hpf rs hrs D3 r3 e3 e3' k3 hl3 o z (by dsimp only at ho; omega) hz D4 r4 e4 e4' D' r E1 E2 L' E3
  · have hn1 := whole_some (bs_lt A) hA
    rw [Pk.next_more _ _ _ hA (by show 0 < n1; omega)] at hpe
    rcases hC : whole (bs C) with _ | ⟨n2, q2⟩
    · rw [Pk.next_none _ _ _ hC] at hpe
      subst hpe
      exact ropenFirst h hok f D1 D2 s A C ha hc n1 q1 hA hC _ _ _ _ _ rfl rfl rfl rfl rfl hpf rs hrs D3 r3 e3 e3' k3 hl3 o z (by dsimp only at ho; omega) hz D4 r4 e4 e4' D' r E1 E2 L' E3
    · by_cases hlt : n1 < n2
      · rw [Pk.next_more _ _ _ hC hlt] at hpe
        subst hpe
        exact ropenBoth2 h hok f D1 D2 s A C ha hc n1 n2 q1 q2 hA hC hlt _ _ _ _ _ rfl rfl rfl rfl rfl hpf rs hrs D3 r3 e3 e3' k3 hl3 o z (by dsimp only at ho; omega) hz D4 r4 e4 e4' D' r E1 E2 L' E3
      · rw [Pk.next_less _ _ _ hC hlt] at hpe
        subst hpe
        exact ropenBoth1 h hok f D1 D2 s A C ha hc n1 n2 q1 q2 hA hC hlt _ _ _ _ _ rfl rfl rfl rfl rfl hpf rs hrs D3 r3 e3 e3' k3 hl3 o z (by dsimp only at ho; omega) hz D4 r4 e4 e4' D' r E1 E2 L' E3
theorem ropenA {D' : Dk} {f : Int} {r : OR} (h : IsR B w0 w b g cap D) (hok : DOk D) (hc : OC D f D' r) :
    Calls Tryz.prog 79 #[.pointer (some ⟨b, 0, none⟩), .int .i64 f] w (RoPost B w0 w b D' r) := by
  cases hc with
  | dead hd => exact ropenDead h hd f
  | no hd hf => exact ropenNo h hd f hf
  | sync1 n D1 hn hd hl e1 k1 hd1 => subst hn; exact ropenSync1 h hok n hd hl D' e1 k1
  | sync2 n D1 D2 hn hd hl e1 k1 e2 => subst hn; exact ropenSync2 h hok n hd hl D1 e1 k1 D' e2
  | form n D1 D2 hn s hg =>
    subst hn
    have hpe := pkOf_eq D' n
    rcases hA : whole (bs (rd (D'.l.getD n Fl.zero))) with _ | ⟨n1, q1⟩
    · rw [Pk.next_none _ _ _ hA] at hpe
      rcases hC : whole (bs (rd (D'.l.getD (n + 1) Fl.zero))) with _ | ⟨n2, q2⟩
      · exact ropenForm h hok n D1 D' s _ _ rfl rfl hA hC
      · have hn2 := whole_some (bs_lt _) hC
        rw [Pk.next_more _ _ _ hC (by show 0 < n2; omega)] at hpe
        rw [hpe] at hg
        dsimp only at hg
        omega
    · have hn1 := whole_some (bs_lt _) hA
      rw [Pk.next_more _ _ _ hA (by show 0 < n1; omega)] at hpe
      rcases hC : whole (bs (rd (D'.l.getD (n + 1) Fl.zero))) with _ | ⟨n2, q2⟩
      · rw [Pk.next_none _ _ _ hC] at hpe
        rw [hpe] at hg
        dsimp only at hg
        omega
      · by_cases hlt : n1 < n2
        · rw [Pk.next_more _ _ _ hC hlt] at hpe
          rw [hpe] at hg
          dsimp only at hg
          omega
        · rw [Pk.next_less _ _ _ hC hlt] at hpe
          rw [hpe] at hg
          dsimp only at hg
          omega
  | cut1 n D1 D2 D3 hn s hg h3 e3 =>
    subst hn
    have hk := cutX_two s.k2 s.al2 _ _ e3
    have hpc : (pkOf D2 n).counts = n ∨ (pkOf D2 n).counts = n + 1 := pkAt_counts _ _ _ _
    by_cases hz : 0 < (rd (D'.l.getD (2 * n + 1 - (pkOf D2 n).counts) Fl.zero)).size
    · exact ropenSome h hok n D1 D2 s hg D' 2 (fun _ => e3) (fun e => absurd h3 e) hk.1 (hk.2.trans s.hl2) (2 * n + 1 - (pkOf D2 n).counts) _ (by omega) rfl _ _ (fun _ => rfl) (fun e => absurd hz e) _ _ (fun _ => ⟨rfl, rfl⟩) (fun e => absurd e (by decide)) ⟨0, 0, 0, 0, false⟩ (fun e => absurd e (by decide))
    · exact ropenSome h hok n D1 D2 s hg D' 2 (fun _ => e3) (fun e => absurd h3 e) hk.1 (hk.2.trans s.hl2) (2 * n + 1 - (pkOf D2 n).counts) _ (by omega) rfl D' 0 (fun e => absurd e hz) (fun e => ⟨rfl, rfl⟩) _ _ (fun _ => ⟨rfl, rfl⟩) (fun e => absurd e (by decide)) ⟨0, 0, 0, 0, false⟩ (fun e => absurd e (by decide))
  | cut2 n D1 D2 D3 D4 o hn s c ho hz e4 =>
    subst hn
    exact ropenSome h hok n D1 D2 s c.hg D3 0 c.y (fun e => ⟨c.n e, rfl⟩) c.k3 (c.hl3.trans s.hl2) o _ ho rfl D' 2 (fun _ => e4) (fun e => absurd hz e) _ _ (fun e => absurd rfl e) (fun _ _ => ⟨rfl, rfl⟩) ⟨0, 0, 0, 0, false⟩ (fun _ e => absurd e (by decide))
  | ok n D1 D2 D3 D4 o hn s c ho h4 h4' =>
    subst hn
    exact ropenSome h hok n D1 D2 s c.hg D3 0 c.y (fun e => ⟨c.n e, rfl⟩) c.k3 (c.hl3.trans s.hl2) o _ ho rfl D' 0 h4 (fun e => ⟨h4' (by omega), rfl⟩) _ _ (fun e => absurd rfl e) (fun _ e => absurd rfl e) _ (fun _ _ => ⟨rfl, rfl⟩)
end
end Go.Proofs.YtilpbjcbffbjeaaGreatDoor
