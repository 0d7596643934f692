/-
  The walks that write small numbers in decimals: the library's Itoa, the reference's l6Dec. Conditions: none.
-/
import Derived.Test.YtpggbfpjofcgnaaDoorValid
import Derived.Lib.ItoaNum
import Derived.Lib.ItoaWalk
import Derived.Lib.Walk
import Derived.Lib.Strings
import Derived.Laws.IdiomStrings
import Derived.Lib.Bytealg
import Derived.BigQuiet
import Derived.Deep.RegionWith
import Derived.Deep.RegionHeld3
import Derived.Deep.QuietTactic
namespace Go.Proofs.YtpggbfpjofcgnaaDoor
set_option linter.unusedSimpArgs false
set_option linter.unusedVariables false
open Go.RowKit

def dec (i : Nat) : ByteArray := ⟨(Lib.decDigits i).toArray⟩
theorem ba_of (x : ByteArray) (l : List UInt8) (h : x.data.toList = l) : x = ⟨l.toArray⟩ := by
  subst h
  cases x
  simp
set_option maxHeartbeats 2000000 in
set_option maxRecDepth 100000 in
theorem small_any (i : Nat) (h : i < 100) (w : World) :
    Calls Tryd.prog 56 #[.int .i64 i] w fun e w' => e = .returned (.string (dec i)) ∧ w' = w := by
  go_enter Tryd.func56, Tryd.ntmps56
  go_name_bytes_deep 45 SM hSM
  have eSM : SM = Lib.smalls := by rw [← hSM]; decide +kernel
  subst eSM
  clear hSM
  go_name_bytes_deep 30 DG hDG
  have eDG : DG = Lib.digits36 := by rw [← hDG]; decide +kernel
  subst eDG
  clear hDG
  by_cases h10 : i < 10
  · have hsl : ∀ w, (Instr.slice 9 (.string Lib.digits36) (some (.int .i64 (i : Int))) (some (.int .i64 ((i : Int) + 1))) none).run Tryd.prog w = .ok (.string (Lib.digits36.extract i (i + 1))) w := fun w => by
      rw [run_slice_string w 9 Lib.digits36 .i64 .i64 _ _ Tryd.underlying9 (by omega) (by omega) (by rw [Lib.digits36_size]; omega), show ((i : Int)).toNat = i by omega, show ((i : Int) + 1).toNat = i + 1 by omega]
    go_wp2
    go_ret
    refine ⟨?_, rfl⟩
    show Ending.returned (Value.string (Lib.digits36.extract i (i + 1))) = _
    rw [ba_of (Lib.digits36.extract i (i + 1)) (Lib.decDigits i) (by rw [Lib.extract_data]; exact Lib.digits36_piece h10)]
    rfl
  · have hsl : ∀ w, (Instr.slice 9 (.string Lib.smalls) (some (.int .i64 ((i : Int) * 2))) (some (.int .i64 ((i : Int) * 2 + 2))) none).run Tryd.prog w = .ok (.string (Lib.smalls.extract (i * 2) (i * 2 + 2))) w := fun w => by
      rw [run_slice_string w 9 Lib.smalls .i64 .i64 _ _ Tryd.underlying9 (by omega) (by omega) (by rw [Lib.smalls_size]; omega), show ((i : Int) * 2).toNat = i * 2 by omega, show ((i : Int) * 2 + 2).toNat = i * 2 + 2 by omega]
    go_wp2
    go_ret
    refine ⟨?_, rfl⟩
    show Ending.returned (Value.string (Lib.smalls.extract (i * 2) (i * 2 + 2))) = _
    rw [ba_of (Lib.smalls.extract (i * 2) (i * 2 + 2)) (Lib.decDigits i) (by rw [Lib.extract_data]; exact Lib.smalls_piece h10 h)]
    rfl
set_option maxHeartbeats 1000000 in
theorem formatInt_any (i : Nat) (h : i < 100) (w : World) :
    Calls Tryd.prog 52 #[.int .i64 i, .int .i64 10] w fun e w' => e = .returned (.string (dec i)) ∧ w' = w := by
  go_enter Tryd.func52, Tryd.ntmps52
  go_wp2_with (go_at_call 56; refine (small_any i h _).mono ?_; rintro e w' ⟨rfl, rfl⟩)
  go_ret
  exact ⟨rfl, rfl⟩
theorem itoaI_any (i : Nat) (h : i < 100) (w : World) :
    Calls Tryd.prog 45 #[.int .i64 i] w fun e w' => e = .returned (.string (dec i)) ∧ w' = w := by
  go_enter Tryd.func45, Tryd.ntmps45
  go_wp2_with (go_at_call 52; refine (formatInt_any i h _).mono ?_; rintro e w' ⟨rfl, rfl⟩)
  go_ret
  exact ⟨rfl, rfl⟩
theorem itoa_any (i : Nat) (h : i < 100) (w : World) :
    Calls Tryd.prog 31 #[.int .i64 i] w fun e w' => e = .returned (.string (dec i)) ∧ w' = w := by
  go_enter Tryd.func31, Tryd.ntmps31
  go_wp2_with (go_at_call 45; refine (itoaI_any i h _).mono ?_; rintro e w' ⟨rfl, rfl⟩)
  go_ret
  exact ⟨rfl, rfl⟩
set_option maxHeartbeats 1000000 in
theorem indexLite_any (s : ByteArray) (c : Int) (w : World) :
    Calls Tryd.prog 46 #[.string s, .int .u8 c] w fun e w' => e = .returned (.int .i64 (Lib.indexByte s.data.toList c.toNat.toUInt8)) ∧ w' = w := by
  go_enter Tryd.func46, Tryd.ntmps46
  go_wp2
  rw [run_callFunc_extern Tryd.func53 (by kernel_rfl) (by kernel_rfl) (by kernel_rfl) (e := Extern.BytealgIndexByte.indexByte) (by kernel_rfl), Lib.run_indexByteString]
  simp only [Result.andThen]
  rw [Oper.upon_value]
  go_wp2
  go_ret
  exact ⟨rfl, rfl⟩
theorem index_any (s : ByteArray) (c : Int) (w : World) :
    Calls Tryd.prog 32 #[.string s, .int .u8 c] w fun e w' => e = .returned (.int .i64 (Lib.indexByte s.data.toList c.toNat.toUInt8)) ∧ w' = w := by
  go_enter Tryd.func32, Tryd.ntmps32
  go_wp2_with (go_at_call 46; refine (indexLite_any _ _ _).mono ?_; rintro e w' ⟨rfl, rfl⟩)
  go_ret
  exact ⟨rfl, rfl⟩
theorem conv_one (i : Nat) (h : i < 10) (w : World) (g : Nat) (hc : w.cell? ⟨g, 0, none⟩ = some (.int .u8 (48 + (i : Int)))) :
    (convert 32 9 (.slice (some ⟨g, 0, none⟩) 1 1)).run Tryd.prog w = .ok (.string (dec i)) w := by
  have hu : (UInt8.ofNat (48 + i)).toNat = 48 + i := by simp; omega
  have := run_convert_bytes_back (P := Tryd.prog) w 32 9 5 ⟨g, 0, none⟩ 1 [UInt8.ofNat (48 + i)] Tryd.underlying32 Tryd.underlying5 Tryd.underlying9 (fun j hj => by
    obtain rfl : j = 0 := by simpa using hj
    simp only [List.getElem_cons_zero, hu]
    simpa [Addr.add] using hc)
  rw [show dec i = ⟨[UInt8.ofNat (48 + i)].toArray⟩ by unfold dec; rw [Lib.decDigits_one h]]
  exact this
set_option maxHeartbeats 1000000 in
theorem l6Dec_one (i : Nat) (h : i < 10) (w : World) :
    Calls Tryd.prog 30 #[.int .i64 i] w fun e w' => e = .returned (.string (dec i)) ∧ w' = w.alloc (.cells #[.int .u8 (48 + (i : Int))] 5) := by
  have hcv := conv_one i h (w.alloc (.cells #[.int .u8 (48 + (i : Int))] 5)) w.heap.size (by (simp (disch := first | omega | (simp; done) | (simp; omega)) [go_sem, *]; done))
  have i0 : (0 : Int) ≤ (i : Int) := Int.natCast_nonneg _
  go_enter Tryd.func30, Tryd.ntmps30
  go_wp2
  go_ret
  exact ⟨rfl, rfl⟩
theorem dec_size {i : Nat} (h : i < 10) : (dec i).size = 1 := by
  unfold dec
  rw [Lib.decDigits_one h]
  rfl
theorem dec_two {i : Nat} (h1 : ¬ i < 10) (h2 : i < 100) : dec (i / 10) ++ dec (i % 10) = dec i := by
  unfold dec
  rw [Lib.decDigits_two h1 h2, Lib.decDigits_one (show i / 10 < 10 by omega), Lib.decDigits_one (show i % 10 < 10 by omega)]
  rfl
theorem conv_ws (q r : Nat) (hr : r < 10) (w : World) :
    (convert 32 9 (.slice (some ⟨w.heap.size + 1, 0, none⟩) 1 1)).run Tryd.prog (((w.alloc (.cells #[.int .u8 (48 + (q : Int))] 5)).alloc (.cells #[.int .u8 (48 + (r : Int))] 5)).drew) = .ok (.string (dec r)) (((w.alloc (.cells #[.int .u8 (48 + (q : Int))] 5)).alloc (.cells #[.int .u8 (48 + (r : Int))] 5)).drew) ∧
    (convert 32 9 (.slice (some ⟨w.heap.size, 0, none⟩) 1 1)).run Tryd.prog (((w.alloc (.cells #[.int .u8 (48 + (r : Int))] 5)).alloc (.cells #[.int .u8 (48 + (q : Int))] 5)).drew) = .ok (.string (dec r)) (((w.alloc (.cells #[.int .u8 (48 + (r : Int))] 5)).alloc (.cells #[.int .u8 (48 + (q : Int))] 5)).drew) ∧
    (convert 32 9 (.slice (some ⟨w.heap.size, 0, none⟩) 1 1)).run Tryd.prog ((w.alloc (.cells #[.int .u8 (48 + (r : Int))] 5)).drew) = .ok (.string (dec r)) ((w.alloc (.cells #[.int .u8 (48 + (r : Int))] 5)).drew) :=
  ⟨conv_one r hr _ _ (by (simp (disch := first | omega | (simp; done) | (simp; omega)) [go_sem, *]; done)), conv_one r hr _ _ (by (simp (disch := first | omega | (simp; done) | (simp; omega)) [go_sem, *]; done)), conv_one r hr _ _ (by (simp (disch := first | omega | (simp; done) | (simp; omega)) [go_sem, *]; done))⟩
set_option maxHeartbeats 2000000 in
theorem l6Dec_two (i : Nat) (h1 : ¬ i < 10) (h : i < 100) (w : World) :
    Calls Tryd.prog 30 #[.int .i64 i] w fun e w' => e = .returned (.string (dec i)) ∧ Below w.heap.size w w' := by
  have i0 : (0 : Int) ≤ (i : Int) := Int.natCast_nonneg _
  have HD := Lib.hid (dec_two h1 h)
  obtain ⟨q, hq⟩ : ∃ q : Nat, q = i / 10 := ⟨_, rfl⟩
  obtain ⟨r, hr⟩ : ∃ r : Nat, r = i % 10 := ⟨_, rfl⟩
  have hq1 : (i : Int).tdiv 10 = (q : Int) := by rw [Int.tdiv_eq_ediv_of_nonneg i0]; omega
  have hr1 : (i : Int).tmod 10 = (r : Int) := by rw [Int.tmod_eq_emod_of_nonneg i0]; omega
  have hq2 : (i : Int) / 10 = (q : Int) := by omega
  have hr2 : (i : Int) % 10 = (r : Int) := by omega
  have hq10 : q < 10 := by omega
  have hr10 : r < 10 := by omega
  have hqi : (q : Int) < 10 := by omega
  have hri : (r : Int) < 10 := by omega
  have hr0 : (0 : Int) ≤ (r : Int) := Int.natCast_nonneg _
  have hi10 : ¬ (i : Int) < 10 := by omega
  have q0 : (0 : Int) ≤ (q : Int) := Int.natCast_nonneg _
  have hwq : IntKind.i64.wrap (q : Int) = (q : Int) := IntWalk.i64_in _ (by omega)
  have hwr : IntKind.i64.wrap (r : Int) = (r : Int) := IntWalk.i64_in _ (by omega)
  have hws : IntKind.i64.wrap (48 + (r : Int)) = 48 + (r : Int) := IntWalk.i64_in _ (by omega)
  have hwu : IntKind.u8.wrap (48 + (r : Int)) = 48 + (r : Int) := IntWalk.u8_in _ (by omega)
  rw [← hq, ← hr] at HD
  have zq : (dec q).size = 1 := dec_size hq10
  have zr : (dec r).size = 1 := dec_size hr10
  obtain ⟨hcA, hcB, hcC⟩ := conv_ws q r hr10 w
  clear hq hr
  go_enter Tryd.func30, Tryd.ntmps30
  go_wp2
  go_region_with (first | (go_at_call 30; refine (l6Dec_one q hq10 _).mono ?_; rintro e w' ⟨rfl, rfl⟩))
  all_goals go_wp2
  all_goals go_ret
  all_goals exact ⟨by rw [← HD.out]; rfl, by (repeat' first | (with_reducible exact Below.refl _ _) | (with_reducible assumption) | (with_reducible refine below_drewN ?_ _) | (with_reducible refine Below.drew ?_) | (with_reducible refine Below.alloc ?_ ?_ _) | (with_reducible refine Below.setCell ?_ ?_ _) | (with_reducible refine Below.trans ?_ (Below.mono (by assumption) ?_)) | first | omega | (simp only [World.size_alloc, World.size_setCell, World.size_drew, size_drewN]; omega) | (simp; done) | (simp; omega) | (simp only [World.size_alloc, World.size_setCell, World.size_drew, size_drewN] at *; omega) | (simp at *; omega))⟩
theorem l6Dec_any (i : Nat) (h : i < 100) (w : World) :
    Calls Tryd.prog 30 #[.int .i64 i] w fun e w' => e = .returned (.string (dec i)) ∧ Below w.heap.size w w' := by
  by_cases h1 : i < 10
  · refine (l6Dec_one i h1 w).mono ?_
    rintro e w' ⟨rfl, rfl⟩
    exact ⟨rfl, by (repeat' first | (with_reducible exact Below.refl _ _) | (with_reducible assumption) | (with_reducible refine below_drewN ?_ _) | (with_reducible refine Below.drew ?_) | (with_reducible refine Below.alloc ?_ ?_ _) | (with_reducible refine Below.setCell ?_ ?_ _) | (with_reducible refine Below.trans ?_ (Below.mono (by assumption) ?_)) | first | omega | (simp only [World.size_alloc, World.size_setCell, World.size_drew, size_drewN]; omega) | (simp; done) | (simp; omega) | (simp only [World.size_alloc, World.size_setCell, World.size_drew, size_drewN] at *; omega) | (simp at *; omega))⟩
  · exact l6Dec_two i h1 h w
end Go.Proofs.YtpggbfpjofcgnaaDoor
