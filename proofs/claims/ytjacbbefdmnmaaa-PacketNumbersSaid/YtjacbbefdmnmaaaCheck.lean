/- The program's check, places and caught (package packet), over this seat's program. -/
import Derived.Test.YtjacbbefdmnmaaaRefSet
import Derived.WalkLawsBesides
namespace Go.Proofs.Ytjacbbefdmnmaaa
open Go.RowKit

/-- What a thrown error looks like. -/
def thrown (e : Int) : Ending := .panicked [{ v := .iface 32 (.int .i64 e), recovered := false }]

/-- The table of sizes. -/
abbrev szs : Array Value := #[.bool false, .bool true, .bool true, .bool false, .bool true, .bool false, .bool false, .bool false, .bool true]
theorem sizes_any (w : World) : Calls Try.prog 28 #[] w fun e w' => e = .returned (.agg szs) ∧ w.alloc (.cells szs 48) = w' := by
  go_enter Try.func28, Try.ntmps28
  go_wp2
  exact bodyPost_ret (v := .agg szs) (by simp [results, Try.results28, go_sem]) rfl ⟨rfl, rfl⟩

theorem check_2 (A : Option Addr) (n c : Nat) (t s : Int) (w : World) (hs : okSz s = false) :
    Calls Try.prog 22 #[.slice A n c, .int .i64 t, .int .i64 s] w fun e w' => e = thrown 2 ∧ Below w.heap.size w w' := by
  obtain ⟨a1, a2, a3, a4⟩ := place_no s hs
  have hb : Below w.heap.size w ((w.alloc (.cells szs 48)).alloc (.cells szs 48)) := ((Below.refl _ _).alloc (Nat.le_refl _) _).alloc (by simp) _
  have HB := Lib.hid hb
  clear hb
  by_cases h0 : s < 0
  · have h0' : decide (s < 0) = true := by simpa using h0
    go_enter Try.func22, Try.ntmps22
    go_wp2_with (go_at_call 28; refine (sizes_any _).mono ?_; rintro e w' ⟨rfl, rfl⟩)
    exact ⟨rfl, rfl, HB.out⟩
  · have h0' : decide (s < 0) = false := by simpa using h0
    by_cases h9 : 9 ≤ s
    · have h9' : decide (9 ≤ s) = true := by simpa using h9
      go_enter Try.func22, Try.ntmps22
      go_wp2_with (go_at_call 28; refine (sizes_any _).mono ?_; rintro e w' ⟨rfl, rfl⟩)
      exact ⟨rfl, rfl, HB.out⟩
    · have h9' : s = 0 ∨ s = 3 ∨ s = 5 ∨ s = 6 ∨ s = 7 := by omega
      clear a1 a2 a3 a4 h0 h9 h0'
      rcases h9' with rfl | rfl | rfl | rfl | rfl
      all_goals
        clear hs
        go_enter Try.func22, Try.ntmps22
        go_wp2_with (go_at_call 28; refine (sizes_any _).mono ?_; rintro e w' ⟨rfl, rfl⟩)
        exact ⟨rfl, rfl, HB.out⟩

theorem check_112 (A : Option Addr) (n c : Nat) (t s : Int) (w : World) (hn : n ≤ 1000000) (ht : -9223372036854775808 ≤ t) (ht2 : t ≤ 9223372036854775807) (hs : okSz s = true) (hb : ¬ (0 ≤ t ∧ t + s ≤ n)) :
    Calls Try.prog 22 #[.slice A n c, .int .i64 t, .int .i64 s] w fun e w' => e = thrown 112 ∧ Below w.heap.size w w' := by
  have hbl : Below w.heap.size w ((w.alloc (.cells szs 48)).alloc (.cells szs 48)) := ((Below.refl _ _).alloc (Nat.le_refl _) _).alloc (by simp) _
  have HB := Lib.hid hbl
  clear hbl
  by_cases h0 : t < 0
  · have h0' : decide (t < 0) = true := by simpa using h0
    rcases place_size s hs with rfl | rfl | rfl | rfl
    all_goals
      clear hs hb
      go_enter Try.func22, Try.ntmps22
      go_wp2_with (go_at_call 28; refine (sizes_any _).mono ?_; rintro e w' ⟨rfl, rfl⟩)
      exact ⟨rfl, rfl, HB.out⟩
  · have h0' : decide (t < 0) = false := by simpa using h0
    have h1 : n - s < t := by omega
    clear hb
    rcases place_size s hs with rfl | rfl | rfl | rfl
    all_goals
      clear hs
      go_enter Try.func22, Try.ntmps22
      go_wp2_with (go_at_call 28; refine (sizes_any _).mono ?_; rintro e w' ⟨rfl, rfl⟩)
      exact ⟨rfl, rfl, HB.out⟩

theorem check_0 (A : Option Addr) (n c : Nat) (t s : Int) (w : World) (hn : n ≤ 1000000) (hs : okSz s = true) (h0 : 0 ≤ t) (h1 : t + s ≤ n) :
    Calls Try.prog 22 #[.slice A n c, .int .i64 t, .int .i64 s] w fun e w' => e = .returned (.tuple #[]) ∧ Below w.heap.size w w' := by
  have hbl : Below w.heap.size w ((w.alloc (.cells szs 48)).alloc (.cells szs 48)) := ((Below.refl _ _).alloc (Nat.le_refl _) _).alloc (by simp) _
  have HB := Lib.hid hbl
  clear hbl
  have h0' : decide (t < 0) = false := by simpa using h0
  rcases place_size s hs with rfl | rfl | rfl | rfl
  all_goals
    clear hs
    go_enter Try.func22, Try.ntmps22
    go_wp2_with (go_at_call 28; refine (sizes_any _).mono ?_; rintro e w' ⟨rfl, rfl⟩)
    go_end0
    exact ⟨rfl, HB.out⟩
end Go.Proofs.Ytjacbbefdmnmaaa
