/- A log over a disk, both of the call's own: each call in one line. -/
import Derived.Test.YtamaefnlicloaaaDoorWOpen
import Derived.Test.YtamaefnlicloaaaDoorWCp2
import Derived.Test.YtamaefnlicloaaaDoorDMade
namespace Go.Proofs.YtamaefnlicloaaaDoor
set_option linter.unusedVariables false
set_option maxRecDepth 100000
open Go.RowKit
structure LAt (B : Nat) (w0 : World) (b g cap lb : Nat) (D : Dk) (L : Lg) (w : World) : Prop where
  on : At B w0 b g cap D w
  log : IsLog w lb b L
  lB : B ≤ lb
def Many (D : Dk) : Prop := ∀ f, f < D.l.length → (D.l.getD f Fl.zero).ws.length < 1099511627776
section
variable {B b g cap lb : Nat} {w0 w w1 : World} {D D' : Dk} {L L' : Lg}
theorem LAt.chg (h : LAt B w0 b g cap lb D L w) (hd : IsDisk w1 b g cap D') (hl : IsLog w1 lb b L') (hc : Chg (fun k => k = lb ∨ k = b ∨ k = g) w w1) : LAt B w0 b g cap lb D' L' w1 :=
  ⟨⟨hd, h.on.below.trans (hc.below (by have := h.on.below.size; have := h.on.le; omega) (fun k hk hs => by have := h.on.bB; have := h.on.gB; have := h.lB; omega)), h.on.bB, h.on.gB, h.on.le⟩, hl, h.lB⟩
theorem LAt.chg2 (h : LAt B w0 b g cap lb D L w) (hd : IsDisk w1 b g cap D') (hc : Chg (fun k => k = b ∨ k = g) w w1) : LAt B w0 b g cap lb D' L w1 :=
  h.chg hd (h.log.keep hc (fun e => by have := h.log.ne h.on.disk; omega)) (hc.mono fun k _ h => .inr h)
theorem LAt.grow (h : LAt B w0 b g cap lb D L w) (hb : Below w.heap.size w w1) : LAt B w0 b g cap lb D L w1 := ⟨h.on.grow hb, h.log.below hb, h.lB⟩
theorem LAt.below (h : LAt B w0 b g cap lb D L w) : Below B w0 w := h.on.below
theorem At.newOk (h : At B w0 b g cap D w) (hok : DOk D) (f : Nat) (s : ByteArray) (hdd : D.dead = false) (hf : f + 1 < D.l.length) (hz : (rd (D.l.getD f Fl.zero)).size = 0) (hz1 : (rd (D.l.getD (f + 1) Fl.zero)).size = 0) (hs : s.size ≤ 16384)
    (hm : Many D) (D1 : Dk) (hr : D.writeX (f : Nat) (recS 1 s) = (D1, 0)) (hok1 : DOk D1) (D2 : Dk) (hr2 : D1.syncX (f : Nat) = (D2, 0)) :
    Calls Tryd.prog 14 #[.pointer (some ⟨b, 0, none⟩), .int .i64 (f : Nat), .string s] w fun e w' => ∃ lb, e = .returned (.tuple #[.pointer (some ⟨lb, 0, none⟩), .int .i64 0]) ∧ w.heap.size ≤ lb ∧ LAt B w0 b g cap lb D2 ⟨f, f, 1, 0, false⟩ w' :=
  (newLOk h.disk hok f s hdd hf hz hz1 hs hm D1 hr hok1 D2 hr2).mono fun e w' ⟨lb, h1, h2, h3, h4, h5⟩ => ⟨lb, h1, h2, ⟨h.chg h4 h5, h3, by have := h.below.size; have := h.le; omega⟩⟩
theorem At.newOkC (h : At B w0 b g cap D w) (hok : DOk D) (f : Nat) (s : ByteArray) (hdd : D.dead = false) (hf : f + 1 < D.l.length) (hz : (rd (D.l.getD f Fl.zero)).size = 0) (hz1 : (rd (D.l.getD (f + 1) Fl.zero)).size = 0) (hs : s.size ≤ 16384)
    (hm : Many D) (D1 : Dk) (hr : D.writeX (f : Nat) (recS 1 s) = (D1, 0)) (hok1 : DOk D1) (D2 : Dk) (hr2 : D1.syncX (f : Nat) = (D2, 0)) :
    Calls Tryd.prog 14 #[.pointer (some ⟨b, 0, none⟩), .int .i64 (f : Nat), .string s] w fun e w' => ∃ lb, e = .returned (.tuple #[.pointer (some ⟨lb, 0, none⟩), .int .i64 0]) ∧ w.heap.size ≤ lb ∧ LAt B w0 b g cap lb D2 ⟨f, f, 1, 0, false⟩ w' ∧ Chg (fun k => k = b ∨ k = g) w w' :=
  (newLOk h.disk hok f s hdd hf hz hz1 hs hm D1 hr hok1 D2 hr2).mono fun e w' ⟨lb, h1, h2, h3, h4, h5⟩ => ⟨lb, h1, h2, ⟨h.chg h4 h5, h3, by have := h.below.size; have := h.le; omega⟩, h5⟩
theorem LAt.room (h : LAt B w0 b g cap lb D L w) (hok : DOk D) (hc : L.counts < D.l.length) (r : Int) (hr : roomZ (rd (D.l.getD L.counts Fl.zero)).size L.n = r) :
    Calls Tryd.prog 32 #[.pointer (some ⟨lb, 0, none⟩)] w fun e w' => e = .returned (.int .i64 r) ∧ LAt B w0 b g cap lb D L w' :=
  (roomW h.log h.on.disk hok hc).mono fun e w' ⟨h1, h2⟩ => ⟨by rw [h1, hr], h.grow h2⟩
theorem LAt.records (h : LAt B w0 b g cap lb D L w) : Calls Tryd.prog 18 #[.pointer (some ⟨lb, 0, none⟩)] w fun e w' => e = .returned (.int .i64 (L.n : Nat)) ∧ w' = w := recordsW h.log
theorem LAt.append (h : LAt B w0 b g cap lb D L w) (hok : DOk D) (s : ByteArray) (hdl : L.dead = false) (hs : s.size ≤ 16384) (hc : L.counts < D.l.length) (hrm : ¬ roomZ (rd (D.l.getD L.counts Fl.zero)).size L.n < (s.size : Int))
    (hm : Many D) (hr : D.writeX (L.counts : Nat) (recS (L.n + 1) s) = (D', 0)) :
    Calls Tryd.prog 19 #[.pointer (some ⟨lb, 0, none⟩), .string s] w fun e w' => e = .returned (.int .i64 0) ∧ LAt B w0 b g cap lb D' { L with n := L.n + 1 } w' :=
  (appendOk h.log h.on.disk hok s hdl hs hc hrm hm (by rw [hr])).mono fun e w' ⟨h1, h2, h3, h4⟩ => by rw [hr] at h3; exact ⟨h1, h.chg h3 h2 h4⟩
theorem LAt.sync (h : LAt B w0 b g cap lb D L w) (hok : DOk D) (hdl : L.dead = false) (hr : D.syncX (L.counts : Nat) = (D', 0)) :
    Calls Tryd.prog 24 #[.pointer (some ⟨lb, 0, none⟩)] w fun e w' => e = .returned (.int .i64 0) ∧ LAt B w0 b g cap lb D' L w' :=
  (syncLOk h.log h.on.disk hok hdl (by rw [hr])).mono fun e w' ⟨h1, h2, h3⟩ => by rw [hr] at h2; exact ⟨h1, h.chg2 h2 h3⟩
theorem LAt.checkpoint (h : LAt B w0 b g cap lb D L w) (hok : DOk D) (s : ByteArray) (hdl : L.dead = false) (hs : s.size ≤ 16384) (hg : L.gen < 1099511627776) (hf : L.first ≤ 1048576) (hcn : L.counts ≤ 1048576)
    (hm : Many D) (o : Nat) (ho : 2 * (L.first : Int) + 1 - (L.counts : Int) = (o : Nat)) (D1 D2 D3 : Dk)
    (e1 : D.writeX (o : Nat) (recS (L.gen + 1) s) = (D1, 0)) (e2 : D1.syncX (o : Nat) = (D2, 0)) (e3 : D2.syncX (L.counts : Nat) = (D3, 0)) (e4 : D3.cutX (L.counts : Nat) 0 = (D', 0)) (k1 : DOk D1) (k2 : DOk D2) (k3 : DOk D3) :
    Calls Tryd.prog 25 #[.pointer (some ⟨lb, 0, none⟩), .string s] w fun e w' => e = .returned (.int .i64 0) ∧ LAt B w0 b g cap lb D' { L with counts := o, gen := L.gen + 1, n := 0 } w' :=
  (checkpointOk h.log h.on.disk hok s hdl hs hg hf hcn hm o ho D1 D2 D3 D' e1 e2 e3 e4 k1 k2 k3).mono fun e w' ⟨h1, h2, h3, h4⟩ => ⟨h1, h.chg h3 h2 h4⟩
theorem LAt.appendC (h : LAt B w0 b g cap lb D L w) (hok : DOk D) (s : ByteArray) (hdl : L.dead = false) (hs : s.size ≤ 16384) (hc : L.counts < D.l.length) (hrm : ¬ roomZ (rd (D.l.getD L.counts Fl.zero)).size L.n < (s.size : Int))
    (hm : Many D) (hr : D.writeX (L.counts : Nat) (recS (L.n + 1) s) = (D', 0)) :
    Calls Tryd.prog 19 #[.pointer (some ⟨lb, 0, none⟩), .string s] w fun e w' => e = .returned (.int .i64 0) ∧ LAt B w0 b g cap lb D' { L with n := L.n + 1 } w' ∧ Chg (fun k => k = lb ∨ k = b ∨ k = g) w w' :=
  (appendOk h.log h.on.disk hok s hdl hs hc hrm hm (by rw [hr])).mono fun e w' ⟨h1, h2, h3, h4⟩ => by rw [hr] at h3; exact ⟨h1, h.chg h3 h2 h4, h4⟩
theorem LAt.syncC (h : LAt B w0 b g cap lb D L w) (hok : DOk D) (hdl : L.dead = false) (hr : D.syncX (L.counts : Nat) = (D', 0)) :
    Calls Tryd.prog 24 #[.pointer (some ⟨lb, 0, none⟩)] w fun e w' => e = .returned (.int .i64 0) ∧ LAt B w0 b g cap lb D' L w' ∧ Chg (fun k => k = lb ∨ k = b ∨ k = g) w w' :=
  (syncLOk h.log h.on.disk hok hdl (by rw [hr])).mono fun e w' ⟨h1, h2, h3⟩ => by rw [hr] at h2; exact ⟨h1, h.chg2 h2 h3, h3.mono fun k _ h => .inr h⟩
theorem LAt.checkpointC (h : LAt B w0 b g cap lb D L w) (hok : DOk D) (s : ByteArray) (hdl : L.dead = false) (hs : s.size ≤ 16384) (hg : L.gen < 1099511627776) (hf : L.first ≤ 1048576) (hcn : L.counts ≤ 1048576)
    (hm : Many D) (o : Nat) (ho : 2 * (L.first : Int) + 1 - (L.counts : Int) = (o : Nat)) (D1 D2 D3 : Dk)
    (e1 : D.writeX (o : Nat) (recS (L.gen + 1) s) = (D1, 0)) (e2 : D1.syncX (o : Nat) = (D2, 0)) (e3 : D2.syncX (L.counts : Nat) = (D3, 0)) (e4 : D3.cutX (L.counts : Nat) 0 = (D', 0)) (k1 : DOk D1) (k2 : DOk D2) (k3 : DOk D3) :
    Calls Tryd.prog 25 #[.pointer (some ⟨lb, 0, none⟩), .string s] w fun e w' => e = .returned (.int .i64 0) ∧ LAt B w0 b g cap lb D' { L with counts := o, gen := L.gen + 1, n := 0 } w' ∧ Chg (fun k => k = lb ∨ k = b ∨ k = g) w w' :=
  (checkpointOk h.log h.on.disk hok s hdl hs hg hf hcn hm o ho D1 D2 D3 D' e1 e2 e3 e4 k1 k2 k3).mono fun e w' ⟨h1, h2, h3, h4⟩ => ⟨h1, h.chg h3 h2 h4, h4⟩
theorem At.openOk (h : At B w0 b g cap D w) (hok : DOk D) (f : Nat) (hdd : D.dead = false) (hf : f + 1 < D.l.length) (D1 D2 D3 D4 : Dk)
    (e1 : D.syncX (f : Nat) = (D1, 0)) (k1 : DOk D1) (e2 : D1.syncX ((f : Int) + 1) = (D2, 0)) (k2 : DOk D2) (hd2 : D2.dead = false) (hl2 : D2.l.length = D.l.length)
    (p : Pk) (hp : pkAt f (rd (D2.l.getD f Fl.zero)) (rd (D2.l.getD (f + 1) Fl.zero)) 2 = p) (hg : 0 < p.gen) (rs : List (List Nat)) (hrs : scan ((bs p.bytes).drop p.fin) = rs)
    (h3 : p.fin + lens rs < p.bytes.size → D2.cutX (p.counts : Nat) ((p.fin + lens rs : Nat) : Int) = (D3, 0)) (h3' : ¬ p.fin + lens rs < p.bytes.size → D3 = D2) (k3 : DOk D3) (hl3 : D3.l.length = D.l.length)
    (o : Nat) (ho : 2 * (f : Int) + 1 - (p.counts : Int) = (o : Nat)) (h4 : 0 < (rd (D3.l.getD o Fl.zero)).size → D3.cutX (o : Nat) 0 = (D4, 0)) (h4' : (rd (D3.l.getD o Fl.zero)).size = 0 → D4 = D3) :
    Calls Tryd.prog 16 #[.pointer (some ⟨b, 0, none⟩), .int .i64 (f : Nat)] w fun e w' => ∃ lb v, e = .returned (.tuple #[.pointer (some ⟨lb, 0, none⟩), .string (strOf p.snap), v, .int .i64 0]) ∧ w.heap.size ≤ lb ∧ LAt B w0 b g cap lb D4 ⟨f, p.counts, p.gen, rs.length, false⟩ w' ∧ WS w' v (rs.map strOf) ∧ Chg (fun k => k = b ∨ k = g) w w' :=
  (openLOk h.disk hok f hdd hf D1 D2 D3 D4 e1 k1 e2 k2 hd2 hl2 _ _ rfl rfl p hp.symm hg rs hrs.symm h3 h3' k3 hl3 o ho _ rfl h4 h4').mono fun e w' ⟨lb, v, h1, h2, h3, h4, h5, h6⟩ =>
    ⟨lb, v, h1, h2, ⟨h.chg h4 h6, h3, by have := h.below.size; have := h.le; omega⟩, h5, h6⟩
end
end Go.Proofs.YtamaefnlicloaaaDoor
