/- The walk of the statement PacketNumbers, over this seat's program. -/
import Derived.Test.YtjacbbefdmnmaaaLaws
import Derived.Deep.RegionHeld3
import Derived.Deep.DrawnRows
namespace Go.Proofs.Ytjacbbefdmnmaaa
open Go.RowKit Go.Shelf
set_option linter.unusedVariables false

def i64s (l : List Int) : List Value := l.map (Value.int .i64)
def allB : List Int := [129, 2, 3, 4, 5, 6, 7, 8, 9, 10, 11, 252]
def endsT : List Int := [-9223372036854775808, -9223372036854775801, -256, -8, 2147483648, 4294967296, 9223372036854775800, 9223372036854775807]
def sizesT : List Int := [-9223372036854775808, -8, -1, 0, 1, 2, 3, 4, 5, 6, 7, 8, 9, 16, 4294967296, 9223372036854775807]

/-- The three tables of the statement, in blocks h, h + 1, h + 2. -/
def Mem3 (h : Nat) (w : World) : Prop := Bk w h 5 (u8s allB) ∧ Bk w (h + 1) 2 (i64s endsT) ∧ Bk w (h + 1 + 1) 3 (i64s sizesT)
theorem Mem3.below {h : Nat} {w w' : World} (m : Mem3 h w) (hb : Below w.heap.size w w') : Mem3 h w' :=
  ⟨m.1.below hb m.1.lt, m.2.1.below hb m.2.1.lt, m.2.2.below hb m.2.2.lt⟩
theorem Mem3.drewN {h : Nat} {w : World} (m : Mem3 h w) (n : Nat) : Mem3 h (w.drewN n) := m
theorem Mem3.drew {h : Nat} {w : World} (m : Mem3 h w) : Mem3 h w.drew := m

theorem Mem3.size {h : Nat} {w : World} (m : Mem3 h w) {i : Nat} (hi : i < 16) : ∃ s, w.cell? ⟨h + 1 + 1, i, none⟩ = some (.int .i64 s) ∧ Hid (sizesT[i]? = some s) ∧ (-9223372036854775808 ≤ s ∧ s ≤ 9223372036854775807) := by
  have hl : i < sizesT.length := hi
  refine ⟨sizesT[i], ?_, List.getElem?_eq_getElem hl, ?_⟩
  · rw [m.2.2.cell]; simp [i64s, hl]
  · have : ∀ x ∈ sizesT, -9223372036854775808 ≤ x ∧ x ≤ 9223372036854775807 := by decide
    exact this _ (List.getElem_mem hl)
theorem Mem3.sizeAt {h : Nat} {w : World} (m : Mem3 h w) {i : Nat} {s : Int} (hs : sizesT[i]? = some s) : w.cell? ⟨h + 1 + 1, i, none⟩ = some (.int .i64 s) := by
  rw [m.2.2.cell]; simp [i64s, hs]
theorem Mem3.endAt {h : Nat} {w : World} (m : Mem3 h w) {i : Nat} {s : Int} (hs : endsT[i]? = some s) : w.cell? ⟨h + 1, i, none⟩ = some (.int .i64 s) := by
  rw [m.2.1.cell]; simp [i64s, hs]
theorem Mem3.ends {h : Nat} {w : World} (m : Mem3 h w) {i : Nat} (hi : i < 8) : ∃ s, w.cell? ⟨h + 1, i, none⟩ = some (.int .i64 s) ∧ Hid (endsT[i]? = some s) ∧ (-9223372036854775808 ≤ s ∧ s ≤ 9223372036854775807) := by
  have hl : i < endsT.length := hi
  refine ⟨endsT[i], ?_, List.getElem?_eq_getElem hl, ?_⟩
  · rw [m.2.1.cell]; simp [i64s, hl]
  · have : ∀ x ∈ endsT, -9223372036854775808 ≤ x ∧ x ≤ 9223372036854775807 := by decide
    exact this _ (List.getElem_mem hl)

theorem Mem3.rd {h : Nat} {w : World} (m : Mem3 h w) {n : Nat} (c : Nat) : Rd w w.heap.size (some ⟨h, 0, none⟩) c (u8s (allB.take n)) := by
  have := m.1.rd (c := c) m.1.lt n
  rw [show (u8s allB).take n = u8s (allB.take n) by simp [u8s, List.map_take]] at this
  exact this
theorem allB_bytes (n : Nat) : Bytes (allB.take n) := by
  intro x hx
  have : ∀ x ∈ allB, 0 ≤ x ∧ x < 256 := by decide
  exact this x (List.mem_of_mem_take hx)

theorem gets_tab (h n : Nat) (t s : Int) (w : World) (m : Mem3 h w) (hn : n ≤ 12) (ht : -9223372036854775808 ≤ t) (ht2 : t ≤ 9223372036854775807) :
    Calls Try.prog 9 #[.slice (some ⟨h, 0, none⟩) n n, .int .i64 t, .int .i64 s] w fun e w' => e = .returned (.bool true) ∧ Below w.heap.size w w' := by
  have hl : (allB.take n).length = n := by simp [allB]; omega
  have := gets_any (some ⟨h, 0, none⟩) n (allB.take n) t s w (m.rd n) (allB_bytes n) (by omega) ht ht2
  rwa [hl] at this
theorem sets_tab (h n : Nat) (t s v : Int) (w : World) (m : Mem3 h w) (hn : n ≤ 12) (ht : -9223372036854775808 ≤ t) (ht2 : t ≤ 9223372036854775807) (hv : 0 ≤ v) (hv2 : v ≤ 18446744073709551615) :
    Calls Try.prog 11 #[.slice (some ⟨h, 0, none⟩) n 12, .int .i64 t, .int .i64 s, .int .u64 v] w fun e w' => e = .returned (.bool true) ∧ Below w.heap.size w w' := by
  have hl : (allB.take n).length = n := by simp [allB]; omega
  have := sets_any (some ⟨h, 0, none⟩) 12 (allB.take n) t s v w (m.rd 12) (by omega) ht ht2 hv hv2
  rwa [hl] at this

/-- What a round's region keeps. -/
theorem s_step {h i : Nat} {s : Int} {w W W' : World} (m : Mem3 h W) (hb : Below h w W) (hx : Below W.heap.size W W') (hs : sizesT[i]? = some s) (hz : h ≤ W.heap.size) :
    W'.cell? ⟨h + 1 + 1, i, none⟩ = some (.int .i64 s) ∧ Mem3 h W' ∧ Below h w W' := ⟨(m.below hx).sizeAt hs, m.below hx, hb.trans (hx.mono hz)⟩
theorem s_step2 {h i k : Nat} {s t : Int} {w W W' : World} (m : Mem3 h W) (hb : Below h w W) (hx : Below W.heap.size W W') (hs : sizesT[i]? = some s) (ht : endsT[k]? = some t) (hz : h ≤ W.heap.size) :
    (W'.cell? ⟨h + 1 + 1, i, none⟩ = some (.int .i64 s) ∧ W'.cell? ⟨h + 1, k, none⟩ = some (.int .i64 t)) ∧ Mem3 h W' ∧ Below h w W' := ⟨⟨(m.below hx).sizeAt hs, (m.below hx).endAt ht⟩, m.below hx, hb.trans (hx.mono hz)⟩
theorem Mem3.hz {h : Nat} {W : World} (m : Mem3 h W) : h ≤ W.heap.size := Nat.le_of_lt m.1.lt

attribute [local go_sem ↓] Go.wp_at_zero Go.wp_at_succ

set_option maxRecDepth 100000 in
set_option maxHeartbeats 4000000 in
theorem PacketNumbers_walk (w : World) : Calls Try.prog 5 #[] w fun e w' => e = .returned (.bool true) ∧ Below w.heap.size w w' := by
  have m0 : Mem3 w.heap.size (((w.alloc (.cells (u8s allB).toArray 5)).alloc (.cells (i64s endsT).toArray 2)).alloc (.cells (i64s sizesT).toArray 3)) := by
    have b0 := Bk.new w 5 (u8s allB)
    have b1 := Bk.new (w.alloc (.cells (u8s allB).toArray 5)) 2 (i64s endsT)
    have b2 := Bk.new ((w.alloc (.cells (u8s allB).toArray 5)).alloc (.cells (i64s endsT).toArray 2)) 3 (i64s sizesT)
    simp only [World.size_alloc] at b0 b1 b2
    exact ⟨(b0.alloc _).alloc _, b1.alloc _, b2⟩
  have hb0 : Below w.heap.size w (((w.alloc (.cells (u8s allB).toArray 5)).alloc (.cells (i64s endsT).toArray 2)).alloc (.cells (i64s sizesT).toArray 3)) :=
    ((((Below.refl _ _).alloc (Nat.le_refl _) _).alloc (by simp) _).alloc (by simp; omega) _)
  have M0 := Lib.hid m0
  have HB0 := Lib.hid hb0
  clear m0 hb0
  go_enter Try.func5, Try.ntmps5
  go_wp2_with fail
  go_loopw [4] (fun n wr => ∃ k : Nat, k ≤ 13 ∧ n = .int .i64 k ∧ Mem3 w.heap.size wr ∧ Below w.heap.size w wr) (fun n _ => 13 - (intOf n).toNat)
  case atStart => exact ⟨0, by omega, rfl, M0.out, HB0.out⟩
  case round =>
    clear M0 HB0
    obtain ⟨n, hn, rfl, m, hb⟩ := hrel
    by_cases hn12 : n ≤ 12
    · have hd12 : decide ((n : Int) ≤ 12) = true := decide_eq_true (by omega)
      go_wp2_with fail
      obtain ⟨wo, rfl⟩ : ∃ wo : World, wo = wr := ⟨_, rfl⟩
      go_loopw [5] (fun i wr => ∃ k : Nat, k ≤ 16 ∧ i = .int .i64 k ∧ Mem3 w.heap.size wr ∧ Below w.heap.size w wr) (fun n _ => 16 - (intOf n).toNat)
      case atStart => exact ⟨0, by omega, rfl, m, hb⟩
      case round =>
        clear m hb
        obtain ⟨i, hi, rfl, m, hb⟩ := hrel
        by_cases hi16 : i < 16
        · have hd16 : decide ((i : Int) < 16) = true := decide_eq_true (by omega)
          go_wp2_with fail
          obtain ⟨wo2, rfl⟩ : ∃ wo : World, wo = wr := ⟨_, rfl⟩
          go_loopw [6] (fun a wr => ∃ t : Int, -2 ≤ t ∧ t ≤ 14 ∧ a = .int .i64 t ∧ Mem3 w.heap.size wr ∧ Below w.heap.size w wr) (fun n _ => (14 - intOf n).toNat)
          case atStart => exact ⟨-2, by omega, by omega, rfl, m, hb⟩
          case round =>
            clear m hb
            obtain ⟨t, ht1, ht2, rfl, m, hb⟩ := hrel
            obtain ⟨s, cs, hs, hsb⟩ := m.size hi16
            by_cases ht : t < 14
            · have hdt : decide (t < 14) = true := decide_eq_true ht
              have i1 : (0 : Int) ≤ (i : Int) := by omega
              have i2 : (i : Int) < 16 := by omega
              have n1 : (0 : Int) ≤ (n : Int) := by omega
              have n2 : (n : Int) ≤ 12 := by omega
              obtain ⟨hs1, hs2⟩ := hsb
              go_wp2_with fail
              go_region_held3 (fun w' => w'.cell? ⟨w.heap.size + 1 + 1, i, none⟩ = some (.int .i64 s) ∧ Mem3 w.heap.size w' ∧ Below w.heap.size w w')
                (first | exact ⟨cs, m, hb.drew⟩ | exact s_step m.drew hb.drew hbx hs.out m.hz | exact (fun a => s_step a.2.1 a.2.2 hbx hs.out a.2.1.hz) (s_step m.drew hb.drew ‹Below wr.drew.heap.size wr.drew _› hs.out m.hz))
                (first
                  | (go_at_call 9; refine (gets_tab w.heap.size n t s _ ?_ hn12 (by omega) (by omega)).mono ?_; (first | assumption | simp [*]); rintro e w' ⟨rfl, hbx⟩)
                  | (go_at_call 11; refine (sets_tab w.heap.size n t s _ _ ?_ hn12 (by omega) (by omega) (by omega) (by omega)).mono ?_; (first | assumption | simp [*]); rintro e w' ⟨rfl, hbx⟩))
              have st := (fun a => s_step a.2.1 a.2.2 hbx hs.out a.2.1.hz) (s_step m.drew hb.drew ‹Below wr.drew.heap.size wr.drew _› hs.out m.hz)
              have m2 := st.2.1
              have hb2 := st.2.2
              clear st hbx m hb cs
              go_wp2_with fail
              go_roundw
              case rel => exact ⟨t + 1, by omega, by omega, by go_num, m2, hb2⟩
              case measure => simp [intOf]; omega
            · have hdt : decide (t < 14) = false := decide_eq_false ht
              clear cs
              go_wp2_with fail
              obtain ⟨wo3, rfl⟩ : ∃ wo : World, wo = wr := ⟨_, rfl⟩
              go_loopw [7] (fun a wr => ∃ k : Nat, k ≤ 8 ∧ a = .int .i64 k ∧ Mem3 w.heap.size wr ∧ Below w.heap.size w wr) (fun n _ => 8 - (intOf n).toNat)
              case atStart => exact ⟨0, by omega, rfl, m, hb⟩
              case round =>
                clear m hb hdt ht ht1 ht2
                obtain ⟨k, hk, rfl, m, hb⟩ := hrel
                by_cases hk8 : k < 8
                · have hdk : decide ((k : Int) < 8) = true := decide_eq_true (by omega)
                  obtain ⟨t', ce, he, heb⟩ := m.ends hk8
                  have cs := m.sizeAt hs.out
                  have i1 : (0 : Int) ≤ (i : Int) := by omega
                  have i2 : (i : Int) < 16 := by omega
                  have k1 : (0 : Int) ≤ (k : Int) := by omega
                  have k2 : (k : Int) < 8 := by omega
                  have n1 : (0 : Int) ≤ (n : Int) := by omega
                  have n2 : (n : Int) ≤ 12 := by omega
                  obtain ⟨hs1, hs2⟩ := hsb
                  obtain ⟨he1, he2⟩ := heb
                  go_wp2_with fail
                  go_region_held3 (fun w' => (w'.cell? ⟨w.heap.size + 1 + 1, i, none⟩ = some (.int .i64 s) ∧ w'.cell? ⟨w.heap.size + 1, k, none⟩ = some (.int .i64 t')) ∧ Mem3 w.heap.size w' ∧ Below w.heap.size w w')
                    (first | exact ⟨⟨cs, ce⟩, m, hb.drew⟩ | exact s_step2 m.drew hb.drew hbx hs.out he.out m.hz | exact (fun a => s_step2 a.2.1 a.2.2 hbx hs.out he.out a.2.1.hz) (s_step2 m.drew hb.drew ‹Below wr.drew.heap.size wr.drew _› hs.out he.out m.hz))
                    (first
                      | (go_at_call 9; refine (gets_tab w.heap.size n t' s _ ?_ hn12 (by omega) (by omega)).mono ?_; (first | assumption | simp [*]); rintro e w' ⟨rfl, hbx⟩)
                      | (go_at_call 11; refine (sets_tab w.heap.size n t' s _ _ ?_ hn12 (by omega) (by omega) (by omega) (by omega)).mono ?_; (first | assumption | simp [*]); rintro e w' ⟨rfl, hbx⟩))
                  have st := (fun a => s_step2 a.2.1 a.2.2 hbx hs.out he.out a.2.1.hz) (s_step2 m.drew hb.drew ‹Below wr.drew.heap.size wr.drew _› hs.out he.out m.hz)
                  have m2 := st.2.1
                  have hb2 := st.2.2
                  clear st hbx m hb cs ce
                  go_wp2_with fail
                  go_roundw
                  case rel => exact ⟨k + 1, by omega, by go_num, m2, hb2⟩
                  case measure => simp [intOf]; omega
                · have hdk : decide ((k : Int) < 8) = false := decide_eq_false (by omega)
                  go_wp2_with fail
                  go_roundw
                  case rel => exact ⟨i + 1, by omega, by go_num, m, hb⟩
                  case measure => simp [intOf]; omega
        · go_wp2_with fail
          go_roundw
          case rel => exact ⟨n + 1, by omega, by go_num, m, hb⟩
          case measure => simp [intOf]; omega
    · go_wp2_with fail
      refine (awake_any _).mono ?_
      rintro e w4 ⟨rfl, hb4⟩
      go_wp2_with fail
      go_ret
      exact ⟨rfl, hb.trans (hb4.mono hb.size)⟩
end Go.Proofs.Ytjacbbefdmnmaaa
