/-
  The walks of bits.OnesCount and bits.TrailingZeros at small numbers. Conditions: the table of the library.
-/
import Derived.Test.YtjopcpoodhamcaaDoorChecked
import Derived.WalkKit
import Derived.Lib.TrailingZeros
namespace Go.Proofs.YtjopcpoodhamcaaDoor
set_option linter.unusedSimpArgs false
set_option linter.unusedVariables false
open Go.RowKit

def popF : Nat → Nat → Nat
  | 0, _ => 0
  | f + 1, n => n % 2 + popF f (n / 2)
/-- The number of ones below 1024. -/
def pop (n : Nat) : Nat := popF 10 n
def tzF : Nat → Nat → Nat
  | 0, _ => 0
  | f + 1, n => if n % 2 = 1 then 0 else 1 + tzF f (n / 2)
/-- The number of zeros behind the last one, below 1024. -/
def tz (n : Nat) : Nat := tzF 10 n
def ob1 (x : Int) : Int := IntKind.u64.wrap (bits .and .u64 (x / 2) 6148914691236517205 + bits .and .u64 x 6148914691236517205)
def ob2 (x : Int) : Int := IntKind.u64.wrap (bits .and .u64 (x / 4) 3689348814741910323 + bits .and .u64 x 3689348814741910323)
def ob3 (x : Int) : Int := bits .and .u64 (IntKind.u64.wrap (x / 16 + x)) 1085102592571150095
def ob4 (x : Int) : Int := IntKind.u64.wrap (x + x / 256)
def ob5 (x : Int) : Int := IntKind.u64.wrap (x + x / 65536)
def ob6 (x : Int) : Int := IntKind.u64.wrap (x + x / 4294967296)
theorem small_all (p : Nat → Bool) (h : (List.range 1024).all p = true) {n : Nat} (hn : n < 1024) : p n = true := List.all_eq_true.1 h n (List.mem_range.2 hn)
theorem ones_fin {n : Nat} (hn : n < 1024) : bits .and .i64 (wrap64 (ob6 (ob5 (ob4 (ob3 (ob2 (ob1 n))))))) 127 = (pop n : Int) := by
  have := small_all (fun n => decide (bits .and .i64 (wrap64 (ob6 (ob5 (ob4 (ob3 (ob2 (ob1 n))))))) 127 = (pop n : Int))) (by decide +kernel) hn
  simpa using this
def tzIdx (x : Int) : Nat := (IntKind.u64.wrap (bits .and .u64 x (IntKind.u64.wrap (-x)) * 285870213051353865) / 288230376151711744).toNat
def tab64 : List Nat := [0, 1, 56, 2, 57, 49, 28, 3, 61, 58, 42, 50, 38, 29, 17, 4, 62, 47, 59, 36, 45, 43, 51, 22, 53, 39, 33, 30, 24, 18, 12, 5, 63, 55, 48, 27, 60, 41, 37, 16, 46, 35, 44, 21, 52, 32, 23, 11, 54, 26, 40, 15, 34, 20, 31, 10, 25, 14, 19, 9, 13, 8, 7, 6]
theorem tz_fin {n : Nat} (hn : n < 1024) (h0 : 0 < n) : tzIdx n < 64 ∧ (tab64[tzIdx n]?).getD 0 = tz n := by
  have := small_all (fun n => !decide (0 < n) || decide (tzIdx n < 64 ∧ (tab64[tzIdx n]?).getD 0 = tz n)) (by decide +kernel) hn
  simpa [h0] using this
theorem tz_le {n : Nat} (hn : n < 1024) : tz n ≤ 10 := by
  have := small_all (fun n => decide (tz n ≤ 10)) (by decide +kernel) hn
  simpa using this
theorem pop_le {n : Nat} (hn : n < 1024) : pop n ≤ 10 := by
  have := small_all (fun n => decide (pop n ≤ 10)) (by decide +kernel) hn
  simpa using this
/-- The world holds the library's table. -/
def Tab (w : World) : Prop := ∀ i : Nat, i < 64 → w.cell? ⟨1, i, none⟩ = some (.int .u8 (((tab64[i]?).getD 0 : Nat) : Int))
theorem Tab.of {w w' : World} (h : Tab w) (hc : ∀ i, w'.cell? ⟨1, i, none⟩ = w.cell? ⟨1, i, none⟩) : Tab w' := fun i hi => (hc i).trans (h i hi)

set_option maxRecDepth 20000 in
set_option maxHeartbeats 1000000 in
theorem ones64_any (n : Nat) (hn : n < 1024) (w : World) :
    Calls Tryd.prog 78 #[.int .u64 n] w fun e w' => e = .returned (.int .i64 (pop n)) ∧ w = w' := by
  have hf := ones_fin hn
  obtain ⟨a1, h1⟩ : ∃ a : Int, IntKind.u64.wrap (bits .and .u64 ((n : Int) / 2) 6148914691236517205 + bits .and .u64 (n : Int) 6148914691236517205) = a := ⟨_, rfl⟩
  obtain ⟨a2, h2⟩ : ∃ a : Int, IntKind.u64.wrap (bits .and .u64 (a1 / 4) 3689348814741910323 + bits .and .u64 a1 3689348814741910323) = a := ⟨_, rfl⟩
  obtain ⟨a3, h3⟩ : ∃ a : Int, bits .and .u64 (IntKind.u64.wrap (a2 / 16 + a2)) 1085102592571150095 = a := ⟨_, rfl⟩
  obtain ⟨a4, h4⟩ : ∃ a : Int, IntKind.u64.wrap (a3 + a3 / 256) = a := ⟨_, rfl⟩
  obtain ⟨a5, h5⟩ : ∃ a : Int, IntKind.u64.wrap (a4 + a4 / 65536) = a := ⟨_, rfl⟩
  obtain ⟨a6, h6⟩ : ∃ a : Int, IntKind.u64.wrap (a5 + a5 / 4294967296) = a := ⟨_, rfl⟩
  have hv : bits .and .i64 (wrap64 a6) 127 = (pop n : Int) := by rw [← h6, ← h5, ← h4, ← h3, ← h2, ← h1]; exact hf
  clear hf
  go_enter Tryd.func78, Tryd.ntmps78
  go_wp2
  go_ret
  exact ⟨rfl, rfl⟩
theorem ones_any (n : Nat) (hn : n < 1024) (w : World) :
    Calls Tryd.prog 70 #[.int .u64 n] w fun e w' => e = .returned (.int .i64 (pop n)) ∧ w = w' := by
  go_enter Tryd.func70, Tryd.ntmps70
  go_wp2_with (go_at_call 78; refine (ones64_any n hn _).mono ?_; rintro e w' ⟨rfl, rfl⟩)
  go_ret
  exact ⟨rfl, rfl⟩
set_option maxRecDepth 20000 in
set_option maxHeartbeats 1000000 in
theorem tz64_any (n : Nat) (hn : n < 1024) (h0 : 0 < n) (w : World) (hT : Tab w) :
    Calls Tryd.prog 80 #[.int .u64 n] w fun e w' => e = .returned (.int .i64 (tz n)) ∧ w = w' := by
  have hz : ((n : Int) == 0) = false := by rw [beq_eq_false_iff_ne]; omega
  obtain ⟨hi, hv⟩ := tz_fin hn h0
  have hc := hT _ hi
  rw [hv] at hc
  unfold tzIdx at hc hi
  have hl := tz_le hn
  have hw : wrap64 ((tz n : Nat) : Int) = tz n := IntWalk.wrap64_in _ (by omega)
  have hi2 : IntKind.u64.wrap (bits .and .u64 (n : Int) (IntKind.u64.wrap (-(n : Int))) * 285870213051353865) / 288230376151711744 < 64 := by omega
  have hi0 : 0 ≤ IntKind.u64.wrap (bits .and .u64 (n : Int) (IntKind.u64.wrap (-(n : Int))) * 285870213051353865) / 288230376151711744 := Int.ediv_nonneg (by rw [IntKind.wrap_u64]; omega) (by omega)
  clear hT hv
  go_enter Tryd.func80, Tryd.ntmps80
  go_wp2
  go_ret
  exact ⟨rfl, rfl⟩
theorem tz_any (n : Nat) (hn : n < 1024) (h0 : 0 < n) (w : World) (hT : Tab w) :
    Calls Tryd.prog 71 #[.int .u64 n] w fun e w' => e = .returned (.int .i64 (tz n)) ∧ w = w' := by
  go_enter Tryd.func71, Tryd.ntmps71
  go_wp2_with (go_at_call 80; refine (tz64_any n hn h0 _ hT).mono ?_; rintro e w' ⟨rfl, rfl⟩)
  go_ret
  exact ⟨rfl, rfl⟩
end Go.Proofs.YtjopcpoodhamcaaDoor
