/- The walks of the reference's cut and ror, whatever the kind's other cells hold. -/
import Derived.Test.YtjlhckgokdjajaaPrimes
import Derived.Test.YtjlhckgokdjajaaRoot
import Derived.Test.YtjlhckgokdjajaaMix64
namespace Go.Proofs.Ytjlhckgokdjajaa
open Go.RowKit
/-- A kind is loaded whole: taken ahead of any unfolding. -/
def kindLoad (v : Value) : Sem Next := do return .value (← Instr.loadAt 51 v)
@[go_sem ↓] theorem execOp_load51 (a : Act) (dst : Option Tmp) (t : Tmp) (ty : TypeId) (pos : String) (after : Array Edge) (guard : Option (Nat × Bool)) :
    execOp a.eval { dst, op := .load 51 (.tmp t), type := ty, pos, after, guard } = kindLoad (a.eval (.tmp t)) := rfl
theorem run_kindLoad (w : World) (g : Nat) (cs : Array Value) (hn : cs.size = 17) (hg : w.heap[g]? = some (.cells cs 51 (0, 0))) : (kindLoad (.pointer (some ⟨g, 0, none⟩))).run Try.prog w = .ok (.value (.agg cs)) w := by
  unfold kindLoad
  simp only [Instr.loadAt, Instr.sureAddr, Sem.run_bind, Sem.run_pure, Result.andThen_ok, run_loadVar_row w g 51 51 cs (0, 0) _ hg Try.underlying51 rfl (by rw [hn]; kernel_rfl)]
/-- A kind's seventeen cells, of which the first holds the bits. -/
structure KCells (cs : Array Value) (wd : Nat) : Prop where
  n : cs.size = 17
  c0 : cs[0]? = some (.int .i64 (wd : Nat))
theorem KCells.cell {cs : Array Value} {wd : Nat} (_ : KCells cs wd) (w : World) (j : Nat) (v : Value) (hv : cs[j]? = some v) : (w.alloc (.cells cs 51)).cell? ⟨w.heap.size, j, none⟩ = some v := by
  rw [cell_of_row _ w.heap.size j cs 51 (0, 0) (heap_alloc_new w _), hv]
set_option maxRecDepth 100000 in
set_option maxHeartbeats 400000 in
theorem cut64W (cs : Array Value) (hk : KCells cs 64) (x : Nat) (w : World) :
    Calls Try.prog 39 #[.agg cs, .int .u64 (x : Nat)] w fun e w' => e = .returned (.int .u64 (x : Nat)) ∧ Below w.heap.size w w' := by
  have h0 := hk.c0
  have hc := hk.cell w 0 _ hk.c0
  go_enter Try.func39, Try.ntmps39
  go_wp2_with fail
  go_ret
  exact ⟨rfl, (Below.refl _ _).alloc (Nat.le_refl _) _⟩
theorem and32 (x : Nat) (hx : x < 2 ^ 64) : bits .and .u64 (x : Int) 4294967295 = ((x % 2 ^ 32 : Nat) : Int) := by
  have := and_u64 x 4294967295 hx (by decide)
  rw [show (4294967295 : Int) = ((4294967295 : Nat) : Int) from rfl, this, show 4294967295 = 2 ^ 32 - 1 from rfl, Nat.and_two_pow_sub_one_eq_mod]
set_option maxRecDepth 100000 in
set_option maxHeartbeats 400000 in
theorem cut32W (cs : Array Value) (hk : KCells cs 32) (x : Nat) (hx : x < 2 ^ 64) (w : World) :
    Calls Try.prog 39 #[.agg cs, .int .u64 (x : Nat)] w fun e w' => e = .returned (.int .u64 (x % 2 ^ 32 : Nat)) ∧ Below w.heap.size w w' := by
  have h0 := hk.c0
  have hc := hk.cell w 0 _ hk.c0
  obtain ⟨y, hy⟩ : ∃ y, y = x % 2 ^ 32 := ⟨_, rfl⟩
  have ha : bits .and .u64 (x : Int) 4294967295 = (y : Int) := by rw [hy]; exact and32 x hx
  rw [← hy]
  clear hy hx
  go_enter Try.func39, Try.ntmps39
  go_wp2_with fail
  go_ret
  exact ⟨rfl, (Below.refl _ _).alloc (Nat.le_refl _) _⟩
/-- The kind's bits. -/
def WD (wd : Nat) : Prop := wd = 32 ∨ wd = 64
theorem cutW (cs : Array Value) (wd : Nat) (hw : WD wd) (hk : KCells cs wd) (x : Nat) (hx : x < 2 ^ 64) (w : World) :
    Calls Try.prog 39 #[.agg cs, .int .u64 (x : Nat)] w fun e w' => e = .returned (.int .u64 (x % 2 ^ wd : Nat)) ∧ Below w.heap.size w w' := by
  rcases hw with rfl | rfl
  · exact cut32W cs hk x hx w
  · rw [Nat.mod_eq_of_lt hx]; exact cut64W cs hk x w
theorem ror_cut (wd x n : Nat) (hw : WD wd) (hx : x < 2 ^ wd) : ((x / 2 ^ n) ||| (x * 2 ^ (wd - n) % 2 ^ 64)) % 2 ^ wd = Sha.ror wd x n := by
  have h64 : wd ≤ 64 := by rcases hw with rfl | rfl <;> decide
  unfold Sha.ror
  rw [Nat.or_mod_two_pow, Nat.mod_eq_of_lt (Nat.lt_of_le_of_lt (Nat.div_le_self _ _) hx), Nat.mod_mod_of_dvd _ (Nat.pow_dvd_pow 2 h64)]
set_option maxRecDepth 100000 in
set_option maxHeartbeats 400000 in
theorem rorW (cs : Array Value) (wd : Nat) (hw : WD wd) (hk : KCells cs wd) (x n : Nat) (hx : x < 2 ^ wd) (hn : n ≤ wd) (w : World) :
    Calls Try.prog 40 #[.agg cs, .int .u64 (x : Nat), .int .i64 (n : Nat)] w fun e w' => e = .returned (.int .u64 (Sha.ror wd x n : Nat)) ∧ Below w.heap.size w w' := by
  have hx64 : x < 2 ^ 64 := by rcases hw with rfl | rfl <;> omega
  have hwd64 : wd ≤ 64 := by rcases hw with rfl | rfl <;> decide
  have h0 := hk.c0
  have hc := hk.cell w 0 _ hk.c0
  have hc' : ∀ t : Grow (w.alloc (.cells cs 51)), t.val.cell? ⟨w.heap.size, 0, none⟩ = some (.int .i64 (wd : Nat)) := fun t => t.cell hc
  obtain ⟨y, hy⟩ : ∃ y, y = (x / 2 ^ n) ||| (x * 2 ^ (wd - n) % 2 ^ 64) := ⟨_, rfl⟩
  have hy64 : y < 2 ^ 64 := by rw [hy]; exact Nat.or_lt_two_pow (Nat.lt_of_le_of_lt (Nat.div_le_self _ _) hx64) (Nat.mod_lt _ (by decide))
  have hyr : y % 2 ^ wd = Sha.ror wd x n := by rw [hy]; exact ror_cut wd x n hw hx
  have HYR := Lib.hid hyr
  have HY64 := Lib.hid hy64
  have HW := Lib.hid hw
  have HK := Lib.hid hk
  have hor : bits_or ((x : Int) / 2 ^ n) (IntKind.u64.wrap ((x : Int) * 2 ^ (wd - n))) = (y : Int) := by
    rw [hy, shr_nat, IntKind.wrap_u64, shl_nat64]
    exact or_u64 _ _ (Nat.lt_of_le_of_lt (Nat.div_le_self _ _) hx64) (Nat.mod_lt _ (by decide))
  unfold bits_or at hor
  have hld : ∀ t : Grow (w.alloc (.cells cs 51)), (kindLoad (.pointer (some ⟨w.heap.size, 0, none⟩))).run Try.prog t.val = .ok (.value (.agg cs)) t.val := fun t =>
    run_kindLoad _ _ _ hk.n (by rw [t.below.block _ (by simp)]; exact heap_alloc_new w _)
  clear hy hyr hy64 hx hx64 hk hw
  go_enter Try.func40, Try.ntmps40
  go_wp2_with fail
  refine wp_region_fam (by kernel_rfl) (by kernel_rfl) Grow.val (Grow.start _) ?_
  repeat go_big_quiet_step ((with_reducible refine Calls.fam_of (cutW cs wd HW.out HK.out y HY64.out _) (Grow.more _)))
  refine wpQuiet_nil ?_
  intro t
  go_wp2_with fail
  go_ret
  exact ⟨by rw [HYR.out]; rfl, ((Below.refl _ _).alloc (Nat.le_refl _) _).trans (t.below.mono (by simp))⟩
end Go.Proofs.Ytjlhckgokdjajaa
