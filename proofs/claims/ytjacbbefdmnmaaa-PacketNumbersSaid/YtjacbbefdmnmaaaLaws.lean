/- The walks of the statements PacketGets and PacketSets, over this seat's program. -/
import Derived.Test.YtjacbbefdmnmaaaAwake
import Derived.OpenShut
namespace Go.Proofs.Ytjacbbefdmnmaaa
open Go.RowKit Go.Shelf
set_option linter.unusedVariables false

/-- A slice of integers that came in: nil, or a row of cap cells, the numbers zs. -/
def Came (k : IntKind) (w : World) (a : Option Addr) (len cap : Nat) (zs : List Int) : Prop :=
  (a = none ∧ len = 0 ∧ cap = 0 ∧ zs = []) ∨
  ∃ x, a = some x ∧ len ≤ cap ∧ cap ≤ maxLen ∧ zs.length = cap ∧ (∀ i, i < zs.length → w.cell? (x.add i) = some (.int k (zs.getD i 0))) ∧ ∀ n ∈ zs, (Lit.int k n).wf = true

theorem Came.rd {w : World} {a : Option Addr} {len cap : Nat} {zs : List Int} (h : Came .u8 w a len cap zs) :
    ∃ xs, xs.length = len ∧ Rd w w.heap.size a cap (u8s xs) ∧ Bytes xs := by
  rcases h with ⟨rfl, rfl, rfl, rfl⟩ | ⟨x, rfl, hl, hm, hz, hc, hw⟩
  · exact ⟨[], rfl, Rd.none_ _ _ _ _ (fun _ => rfl), fun x hx => by cases hx⟩
  · refine ⟨zs.take len, by simp; omega, ⟨fun e => (by cases e), fun hx => ?_⟩, fun n hn => ?_⟩
    · have h0 : 0 < zs.length := by
        rcases Nat.eq_zero_or_pos zs.length with h | h
        · have : zs = [] := List.eq_nil_of_length_eq_zero h
          subst this
          simp [u8s] at hx
        · exact h
      refine ⟨x, rfl, ?_, fun j u hu => ?_⟩
      · have := World.block_lt_of_cell? w _ (hc 0 h0)
        rwa [add_blk] at this
      · simp only [u8s, List.getElem?_map, List.getElem?_take] at hu
        by_cases hj : j < len
        · rw [if_pos hj] at hu
          have hjz : j < zs.length := by omega
          rw [hc j hjz]
          simpa [List.getD, hjz] using hu
        · rw [if_neg hj] at hu
          simp at hu
    · have := bounds_u8 (hw n (List.mem_of_mem_take hn))
      omega

theorem i64_bd {n : Int} (h : (Lit.int .i64 n).wf = true) : -9223372036854775808 ≤ n ∧ n ≤ 9223372036854775807 := bounds_i64 h
theorem u64_bd {n : Int} (h : (Lit.int .u64 n).wf = true) : 0 ≤ n ∧ n ≤ 18446744073709551615 := bounds_u64 h

theorem PacketGets_walk (a0 : Option Addr) (len0 cap0 : Nat) (z0 : List Int) (a1 : Int) (a2 : Int) (w : World) (w0 : Came .u8 w a0 len0 cap0 z0) (w1 : (Lit.int .i64 a1).wf = true) (w2 : (Lit.int .i64 a2).wf = true) :
    Calls Try.prog 3 #[.slice a0 len0 cap0, .int .i64 a1, .int .i64 a2] w fun e w' => e = .returned (.bool true) ∧ Below w.heap.size w w' := by
  obtain ⟨xs, hxl, hR, hx⟩ := w0.rd
  subst hxl
  obtain ⟨t1, t2⟩ := i64_bd w1
  have HR := Lib.hid hR
  clear hR w0 w1 w2
  by_cases hl : 70000 < xs.length
  · go_enter Try.func3, Try.ntmps3
    go_wp2_with (go_at_call 7; refine (awake_any _).mono ?_; rintro e w' ⟨rfl, hb⟩)
    go_ret
    exact ⟨rfl, hb⟩
  · go_enter Try.func3, Try.ntmps3
    go_wp2_with fail
    refine (lent_any a0 cap0 xs _ HR.out (by omega)).mono ?_
    rintro e w1 ⟨rfl, b1, hb1⟩
    have hR1 := b1.rd (c := xs.length + 12) b1.lt xs.length
    rw [u8s_app, List.take_left' (by simp)] at hR1
    have HR1 := Lib.hid hR1
    have B1 := Lib.hid b1
    clear hR1 b1
    go_wp2_with fail
    refine (gets_any _ _ xs a1 a2 _ HR1.out hx (by omega) t1 t2).mono ?_
    rintro e w2 ⟨rfl, hb2⟩
    have hb2' := hb1.trans (hb2.mono hb1.size)
    have hk := kept_any w.heap.size xs.length a0 cap0 (xs ++ marks 12) xs w2 (B1.out.below hb2 B1.out.lt) ((HR.out.below hb2').mono hb2'.size) (by simp) (by omega) (by omega)
    simp only [decide_true] at hk
    have HK := Lib.hid hk
    clear hk hb1 hb2
    go_wp2_with fail
    refine HK.out.mono ?_
    rintro e w3 ⟨rfl, k, rfl⟩
    go_wp2_with fail
    refine (awake_any _).mono ?_
    rintro e w4 ⟨rfl, hb4⟩
    go_wp2_with fail
    go_ret
    exact ⟨rfl, (below_drewN hb2' _).trans (hb4.mono hb2'.size)⟩

theorem PacketSets_walk (a0 : Option Addr) (len0 cap0 : Nat) (z0 : List Int) (a1 : Int) (a2 : Int) (a3 : Int) (w : World) (w0 : Came .u8 w a0 len0 cap0 z0) (w1 : (Lit.int .i64 a1).wf = true) (w2 : (Lit.int .i64 a2).wf = true) (w3 : (Lit.int .u64 a3).wf = true) :
    Calls Try.prog 4 #[.slice a0 len0 cap0, .int .i64 a1, .int .i64 a2, .int .u64 a3] w fun e w' => e = .returned (.bool true) ∧ Below w.heap.size w w' := by
  obtain ⟨xs, hxl, hR, hx⟩ := w0.rd
  subst hxl
  obtain ⟨t1, t2⟩ := i64_bd w1
  obtain ⟨v1, v2⟩ := u64_bd w3
  have HR := Lib.hid hR
  clear hR w0 w1 w2 w3
  by_cases hl : 70000 < xs.length
  · go_enter Try.func4, Try.ntmps4
    go_wp2_with (go_at_call 7; refine (awake_any _).mono ?_; rintro e w' ⟨rfl, hb⟩)
    go_ret
    exact ⟨rfl, hb⟩
  · go_enter Try.func4, Try.ntmps4
    go_wp2_with fail
    refine (sets_any a0 cap0 xs a1 a2 a3 _ HR.out (by omega) t1 t2 v1 v2).mono ?_
    rintro e w1 ⟨rfl, hb1⟩
    go_wp2_with fail
    refine (awake_any _).mono ?_
    rintro e w4 ⟨rfl, hb4⟩
    go_wp2_with fail
    go_ret
    exact ⟨rfl, hb1.trans (hb4.mono hb1.size)⟩
end Go.Proofs.Ytjacbbefdmnmaaa
