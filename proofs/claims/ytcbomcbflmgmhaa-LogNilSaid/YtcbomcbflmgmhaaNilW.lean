/- LogNil: over this seat's program. -/
import Derived.Test.YtcbomcbflmgmhaaNil
import Derived.Deep.RegionHeld3
namespace Go.Proofs.Ytcbomcbflmgmhaa
open Go.RowKit
set_option linter.unusedVariables false

theorem alloc3 (w : World) (o0 o1 o2 : Obj) : (((w.alloc o0).alloc o1).alloc o2).heap[w.heap.size]? = some o0 ∧ (((w.alloc o0).alloc o1).alloc o2).heap[w.heap.size + 1]? = some o1 ∧
    (((w.alloc o0).alloc o1).alloc o2).heap[w.heap.size + 1 + 1]? = some o2 :=
  ⟨(heap_alloc_old _ _ (by simp <;> omega)).trans ((heap_alloc_old _ _ (by simp)).trans (heap_new' rfl)), (heap_alloc_old _ _ (by simp)).trans (heap_new' (by simp)), heap_new' (by simp)⟩
/-- A value at an offset of the row of logs. -/
def vAt (n k : Nat) : Value := if k = 0 then .pointer none else .pointer (some ⟨n + 1, 0, none⟩)
set_option maxRecDepth 100000 in
set_option maxHeartbeats 4000000 in
theorem LogNil_walk (i : Int) (e : En) (A : Option Addr) (c : Nat) (w : World) : Calls Try.prog 4 #[.int .i64 i, enA e A c] w fun x w' => x = .returned (.bool true) ∧ Below w.heap.size w w' := by
  unfold enA enV
  go_enter Try.func4, Try.ntmps4
  go_wp2_with fail
  obtain ⟨w3, hw3⟩ : ∃ w3, w3 = ((w.alloc (.cells #[.int .i64 e.term, .int .u8 e.kind, .int .i64 e.ver, .int .i64 e.srv, .bool e.good, .slice A e.data.length c] 37)).alloc (.cells #[.slice none 0 0, .bool false] 42)).alloc (.cells #[.pointer none, .pointer (some ⟨w.heap.size + 1, 0, none⟩)] 25) := ⟨_, rfl⟩
  obtain ⟨q0, q1, q2⟩ := alloc3 w (.cells #[.int .i64 e.term, .int .u8 e.kind, .int .i64 e.ver, .int .i64 e.srv, .bool e.good, .slice A e.data.length c] 37) (.cells #[.slice none 0 0, .bool false] 42) (.cells #[.pointer none, .pointer (some ⟨w.heap.size + 1, 0, none⟩)] 25)
  have hz : w3.heap.size = w.heap.size + 3 := by rw [hw3]; simp
  have hB3 : Below w.heap.size w w3 := by rw [hw3]; exact (((Below.refl _ _).alloc (Nat.le_refl _) _).alloc (by simp) _).alloc (by simp; omega) _
  rw [← hw3] at q0 q1 q2 ⊢
  have HZ := Lib.hid hz
  clear hw3 hz
  go_loopw [6] (fun k wr => ∃ k' : Nat, k' ≤ 2 ∧ k = .int .i64 k' ∧ Below w3.heap.size w3 wr) (fun k _ => 2 - (intOf k).toNat)
  case atStart => exact ⟨0, by omega, rfl, Below.refl _ _⟩
  case round =>
    obtain ⟨k, hk, rfl, hB⟩ := hrel
    have hz := HZ.out
    have p0 : wr.heap[w.heap.size]? = _ := (hB.block _ (by omega)).trans q0
    have p1 : wr.heap[w.heap.size + 1]? = _ := (hB.block _ (by omega)).trans q1
    have p2 : wr.heap[w.heap.size + 1 + 1]? = _ := (hB.block _ (by omega)).trans q2
    clear hz
    by_cases hlt : k < 2
    · have d1 : decide ((k : Int) < 2) = true := decide_eq_true (by omega)
      have i1 : (0 : Int) ≤ (k : Int) := by omega
      have i2 : (k : Int) < 2 := by omega
      have hv : wr.cell? ⟨w.heap.size + 1 + 1, k, none⟩ = some (vAt w.heap.size k) := by
        rw [cell_of_row _ _ k _ _ _ p2]
        rcases (by omega : k = 0 ∨ k = 1) with rfl | rfl <;> rfl
      have hu : Unk wr (vAt w.heap.size k) := by
        rcases (by omega : k = 0 ∨ k = 1) with rfl | rfl
        · exact .inl rfl
        · exact .inr ⟨_, rfl, p1⟩
      obtain ⟨e0, e1, e2, e3, e4, e5⟩ := cells6 p0
      go_wp2_with fail
      refine (Last_unk _ _ hu).mono ?_
      rintro _ w4 ⟨rfl, rfl⟩
      go_wp2_with fail
      refine (At_unk _ i _ hu).mono ?_
      rintro _ w5 ⟨rfl, hB5⟩
      have hv5 : w5.cell? ⟨w.heap.size + 1 + 1, k, none⟩ = some (vAt w.heap.size k) := (World.cell?_of_block (hB5.block _ (Array.getElem?_eq_some_iff.1 p2).1)).trans hv
      rw [show enA en0 none 0 = .agg #[.int .i64 0, .int .u8 0, .int .i64 0, .int .i64 0, .bool false, .slice none 0 0] from rfl]
      have z5 : w.heap.size + 1 + 1 < w5.heap.size := Nat.lt_of_lt_of_le (Array.getElem?_eq_some_iff.1 p2).1 hB5.size
      have hB6 : Below wr.heap.size wr (w5.alloc (.cells #[.int .i64 0, .int .u8 0, .int .i64 0, .int .i64 0, .bool false, .slice none 0 0] 37)) := hB5.alloc hB5.size _
      have x6 := heap_alloc_new w5 (.cells #[.int .i64 0, .int .u8 0, .int .i64 0, .int .i64 0, .bool false, .slice none 0 0] 37)
      have hu6 := hu.below hB6
      have hv6 : ∀ o, (w5.alloc o).cell? ⟨w.heap.size + 1 + 1, k, none⟩ = some (vAt w.heap.size k) := fun o => (World.cell?_of_block (heap_alloc_old w5 o z5)).trans hv5
      clear hv hu e0 e1 e2 e3 e4 e5
      go_wp2_with fail
      refine (Term_unk _ i _ hu6).mono ?_
      rintro _ w7 ⟨rfl, rfl⟩
      have p6 := (hB6.block _ (Array.getElem?_eq_some_iff.1 p0).1).trans p0
      replace hv6 := hv6 (.cells #[.int .i64 0, .int .u8 0, .int .i64 0, .int .i64 0, .bool false, .slice none 0 0] 37)
      generalize w5.alloc (.cells #[.int .i64 0, .int .u8 0, .int .i64 0, .int .i64 0, .bool false, .slice none 0 0] 37) = w6 at *
      obtain ⟨e0, e1, e2, e3, e4, e5⟩ := cells6 p6
      go_wp2_with fail
      have keepS : ∀ w', Below w6.heap.size w6 w' → ((w'.cell? ⟨w.heap.size + 1 + 1, k, none⟩ = some (vAt w.heap.size k) ∧ w'.cell? ⟨w.heap.size, 0, none⟩ = some (.int .i64 e.term) ∧ w'.cell? ⟨w.heap.size, 1, none⟩ = some (.int .u8 e.kind) ∧ w'.cell? ⟨w.heap.size, 2, none⟩ = some (.int .i64 e.ver) ∧ w'.cell? ⟨w.heap.size, 3, none⟩ = some (.int .i64 e.srv) ∧ w'.cell? ⟨w.heap.size, 4, none⟩ = some (.bool e.good) ∧ w'.cell? ⟨w.heap.size, 5, none⟩ = some (.slice A e.data.length c)) ∧ Unk w' (vAt w.heap.size k)) := by
        intro w' hb
        have k0 := (Array.getElem?_eq_some_iff.1 p6).1
        have kb := fun j => World.cell?_of_block (a := (⟨w.heap.size, j, none⟩ : Addr)) (hb.block _ k0)
        have z6 : w.heap.size + 1 + 1 < w6.heap.size := World.block_lt_of_cell? w6 _ hv6
        exact ⟨⟨(World.cell?_of_block (hb.block _ z6)).trans hv6, (kb 0).trans e0, (kb 1).trans e1, (kb 2).trans e2, (kb 3).trans e3, (kb 4).trans e4, (kb 5).trans e5⟩, hu6.below hb⟩
      go_region_held3 (fun w' => (w'.cell? ⟨w.heap.size + 1 + 1, k, none⟩ = some (vAt w.heap.size k) ∧ w'.cell? ⟨w.heap.size, 0, none⟩ = some (.int .i64 e.term) ∧ w'.cell? ⟨w.heap.size, 1, none⟩ = some (.int .u8 e.kind) ∧ w'.cell? ⟨w.heap.size, 2, none⟩ = some (.int .i64 e.ver) ∧ w'.cell? ⟨w.heap.size, 3, none⟩ = some (.int .i64 e.srv) ∧ w'.cell? ⟨w.heap.size, 4, none⟩ = some (.bool e.good) ∧ w'.cell? ⟨w.heap.size, 5, none⟩ = some (.slice A e.data.length c)) ∧ Unk w' (vAt w.heap.size k))
        (first | exact keepS _ (Below.refl _ _).drew | exact keepS _ ((Below.refl _ _).alloc (Nat.le_refl _) _).drew)
        (first | (go_at_call 9; refine (Fit_unk _ _ _ _ _ (keepS _ ((Below.refl _ _).alloc (Nat.le_refl _) _).drew).2).mono ?_; rintro _ w8 ⟨rfl, rfl⟩))
      have hB8 : Below w6.heap.size w6 (w6.alloc (.cells #[.int .i64 e.term, .int .u8 e.kind, .int .i64 e.ver, .int .i64 e.srv, .bool e.good, .slice A e.data.length c] 37)).drew := ((Below.refl _ _).alloc (Nat.le_refl _) _).drew
      have x8 := (hB8.block _ (Array.getElem?_eq_some_iff.1 x6).1).trans x6
      obtain ⟨⟨hv8, e0', e1', e2', e3', e4', e5'⟩, hu8⟩ := keepS _ hB8
      clear keepS e0 e1 e2 e3 e4 e5 hv6 hu6 x6
      have hB68 : Below wr.heap.size wr _ := hB6.trans (hB8.mono hB6.size)
      clear hB8
      generalize (w6.alloc (.cells #[.int .i64 e.term, .int .u8 e.kind, .int .i64 e.ver, .int .i64 e.srv, .bool e.good, .slice A e.data.length c] 37)).drew = w8 at *
      obtain ⟨x0, x1, x2, x3, x4, x5⟩ := cells6 x8
      go_wp2_with fail
      have keepS : ∀ w', Below w8.heap.size w8 w' → ((w'.cell? ⟨w.heap.size + 1 + 1, k, none⟩ = some (vAt w.heap.size k) ∧ w'.cell? ⟨w.heap.size, 0, none⟩ = some (.int .i64 e.term) ∧ w'.cell? ⟨w.heap.size, 1, none⟩ = some (.int .u8 e.kind) ∧ w'.cell? ⟨w.heap.size, 2, none⟩ = some (.int .i64 e.ver) ∧ w'.cell? ⟨w.heap.size, 3, none⟩ = some (.int .i64 e.srv) ∧ w'.cell? ⟨w.heap.size, 4, none⟩ = some (.bool e.good) ∧ w'.cell? ⟨w.heap.size, 5, none⟩ = some (.slice A e.data.length c) ∧ w'.cell? ⟨w5.heap.size, 0, none⟩ = some (.int .i64 0) ∧ w'.cell? ⟨w5.heap.size, 1, none⟩ = some (.int .u8 0) ∧ w'.cell? ⟨w5.heap.size, 2, none⟩ = some (.int .i64 0) ∧ w'.cell? ⟨w5.heap.size, 3, none⟩ = some (.int .i64 0) ∧ w'.cell? ⟨w5.heap.size, 4, none⟩ = some (.bool false) ∧ w'.cell? ⟨w5.heap.size, 5, none⟩ = some (.slice none 0 0)) ∧ Below w8.heap.size w8 w') := by
        intro w' hb
        have k0 : w.heap.size < w8.heap.size := World.block_lt_of_cell? w8 _ e0'
        have k1 : w5.heap.size < w8.heap.size := World.block_lt_of_cell? w8 _ x0
        have kb := fun j => World.cell?_of_block (a := (⟨w.heap.size, j, none⟩ : Addr)) (hb.block _ k0)
        have kx := fun j => World.cell?_of_block (a := (⟨w5.heap.size, j, none⟩ : Addr)) (hb.block _ k1)
        exact ⟨⟨(World.cell?_of_block (hb.block _ (World.block_lt_of_cell? w8 _ hv8))).trans hv8, (kb 0).trans e0', (kb 1).trans e1', (kb 2).trans e2', (kb 3).trans e3', (kb 4).trans e4', (kb 5).trans e5', (kx 0).trans x0, (kx 1).trans x1, (kx 2).trans x2, (kx 3).trans x3, (kx 4).trans x4, (kx 5).trans x5⟩, hb⟩
      have hput : ∀ w', ((w'.cell? ⟨w.heap.size + 1 + 1, k, none⟩ = some (vAt w.heap.size k) ∧ w'.cell? ⟨w.heap.size, 0, none⟩ = some (.int .i64 e.term) ∧ w'.cell? ⟨w.heap.size, 1, none⟩ = some (.int .u8 e.kind) ∧ w'.cell? ⟨w.heap.size, 2, none⟩ = some (.int .i64 e.ver) ∧ w'.cell? ⟨w.heap.size, 3, none⟩ = some (.int .i64 e.srv) ∧ w'.cell? ⟨w.heap.size, 4, none⟩ = some (.bool e.good) ∧ w'.cell? ⟨w.heap.size, 5, none⟩ = some (.slice A e.data.length c) ∧ w'.cell? ⟨w5.heap.size, 0, none⟩ = some (.int .i64 0) ∧ w'.cell? ⟨w5.heap.size, 1, none⟩ = some (.int .u8 0) ∧ w'.cell? ⟨w5.heap.size, 2, none⟩ = some (.int .i64 0) ∧ w'.cell? ⟨w5.heap.size, 3, none⟩ = some (.int .i64 0) ∧ w'.cell? ⟨w5.heap.size, 4, none⟩ = some (.bool false) ∧ w'.cell? ⟨w5.heap.size, 5, none⟩ = some (.slice none 0 0)) ∧ Below w8.heap.size w8 w') → Calls Try.prog 15 #[vAt w.heap.size k, .agg #[.int .i64 e.term, .int .u8 e.kind, .int .i64 e.ver, .int .i64 e.srv, .bool e.good, .slice A e.data.length c]] w' fun x w2 => x = .returned (.int .i64 0) ∧ Below w8.heap.size w8 w2 := fun w' h => (Put_unk _ e A c w' (hu8.below h.2)).mono fun x w2 ⟨h1, h2⟩ => ⟨h1, h.2.trans (h2.mono h.2.size)⟩
      have hfrom : ∀ w', ((w'.cell? ⟨w.heap.size + 1 + 1, k, none⟩ = some (vAt w.heap.size k) ∧ w'.cell? ⟨w.heap.size, 0, none⟩ = some (.int .i64 e.term) ∧ w'.cell? ⟨w.heap.size, 1, none⟩ = some (.int .u8 e.kind) ∧ w'.cell? ⟨w.heap.size, 2, none⟩ = some (.int .i64 e.ver) ∧ w'.cell? ⟨w.heap.size, 3, none⟩ = some (.int .i64 e.srv) ∧ w'.cell? ⟨w.heap.size, 4, none⟩ = some (.bool e.good) ∧ w'.cell? ⟨w.heap.size, 5, none⟩ = some (.slice A e.data.length c) ∧ w'.cell? ⟨w5.heap.size, 0, none⟩ = some (.int .i64 0) ∧ w'.cell? ⟨w5.heap.size, 1, none⟩ = some (.int .u8 0) ∧ w'.cell? ⟨w5.heap.size, 2, none⟩ = some (.int .i64 0) ∧ w'.cell? ⟨w5.heap.size, 3, none⟩ = some (.int .i64 0) ∧ w'.cell? ⟨w5.heap.size, 4, none⟩ = some (.bool false) ∧ w'.cell? ⟨w5.heap.size, 5, none⟩ = some (.slice none 0 0)) ∧ Below w8.heap.size w8 w') → Calls Try.prog 10 #[vAt w.heap.size k, .int .i64 1, .int .i64 9] w' fun x w2 => x = .returned (.slice none 0 0) ∧ Below w8.heap.size w8 w2 := fun w' h => (From_unk _ 1 9 w' (hu8.below h.2)).mono fun x w2 ⟨h1, h2⟩ => ⟨h1, h.2.trans (h2.mono h.2.size)⟩
      have hsame : ∀ w', ((w'.cell? ⟨w.heap.size + 1 + 1, k, none⟩ = some (vAt w.heap.size k) ∧ w'.cell? ⟨w.heap.size, 0, none⟩ = some (.int .i64 e.term) ∧ w'.cell? ⟨w.heap.size, 1, none⟩ = some (.int .u8 e.kind) ∧ w'.cell? ⟨w.heap.size, 2, none⟩ = some (.int .i64 e.ver) ∧ w'.cell? ⟨w.heap.size, 3, none⟩ = some (.int .i64 e.srv) ∧ w'.cell? ⟨w.heap.size, 4, none⟩ = some (.bool e.good) ∧ w'.cell? ⟨w.heap.size, 5, none⟩ = some (.slice A e.data.length c) ∧ w'.cell? ⟨w5.heap.size, 0, none⟩ = some (.int .i64 0) ∧ w'.cell? ⟨w5.heap.size, 1, none⟩ = some (.int .u8 0) ∧ w'.cell? ⟨w5.heap.size, 2, none⟩ = some (.int .i64 0) ∧ w'.cell? ⟨w5.heap.size, 3, none⟩ = some (.int .i64 0) ∧ w'.cell? ⟨w5.heap.size, 4, none⟩ = some (.bool false) ∧ w'.cell? ⟨w5.heap.size, 5, none⟩ = some (.slice none 0 0)) ∧ Below w8.heap.size w8 w') → Calls Try.prog 12 #[.agg #[.int .i64 0, .int .u8 0, .int .i64 0, .int .i64 0, .bool false, .slice none 0 0], .agg #[.int .i64 0, .int .u8 0, .int .i64 0, .int .i64 0, .bool false, .slice none 0 0]] w' fun x w2 => x = .returned (.bool true) ∧ Below w8.heap.size w8 w2 := fun w' h => (SameEntry_any (fun _ => False) (fun _ => False) en0 en0 none none 0 0 w' (Rd.none_ _ _ _ _ (fun _ => rfl)) (Rd.none_ _ _ _ _ (fun _ => rfl)) (fun b hb => hb.elim) (fun b hb => hb.elim) (by decide) (by decide)).mono fun x w2 ⟨h1, h2⟩ => ⟨by rw [h1]; rfl, h.2.trans (h2.mono h.2.size)⟩
      clear hu8
      go_region_held3 (fun w' => (w'.cell? ⟨w.heap.size + 1 + 1, k, none⟩ = some (vAt w.heap.size k) ∧ w'.cell? ⟨w.heap.size, 0, none⟩ = some (.int .i64 e.term) ∧ w'.cell? ⟨w.heap.size, 1, none⟩ = some (.int .u8 e.kind) ∧ w'.cell? ⟨w.heap.size, 2, none⟩ = some (.int .i64 e.ver) ∧ w'.cell? ⟨w.heap.size, 3, none⟩ = some (.int .i64 e.srv) ∧ w'.cell? ⟨w.heap.size, 4, none⟩ = some (.bool e.good) ∧ w'.cell? ⟨w.heap.size, 5, none⟩ = some (.slice A e.data.length c) ∧ w'.cell? ⟨w5.heap.size, 0, none⟩ = some (.int .i64 0) ∧ w'.cell? ⟨w5.heap.size, 1, none⟩ = some (.int .u8 0) ∧ w'.cell? ⟨w5.heap.size, 2, none⟩ = some (.int .i64 0) ∧ w'.cell? ⟨w5.heap.size, 3, none⟩ = some (.int .i64 0) ∧ w'.cell? ⟨w5.heap.size, 4, none⟩ = some (.bool false) ∧ w'.cell? ⟨w5.heap.size, 5, none⟩ = some (.slice none 0 0)) ∧ Below w8.heap.size w8 w')
        (first | exact keepS _ (Below.refl _ _).drew | exact keepS _ hbx)
        (first
          | (go_at_call 15; refine (hput _ (by assumption)).mono ?_; rintro _ w9 ⟨rfl, hbx⟩)
          | (go_at_call 10; refine (hfrom _ (by assumption)).mono ?_; rintro _ wx ⟨rfl, hbx⟩)
          | (go_at_call 12; refine (hsame _ (by assumption)).mono ?_; rintro _ wy ⟨rfl, hbx⟩))
      have hN := hB.trans ((hB68.mono hB.size).trans (hbx.mono (Nat.le_trans hB.size hB68.size)))
      clear hput hfrom hsame keepS hbx hB68 hB
      go_wp2_with fail
      go_roundw
      case rel => exact ⟨k + 1, by omega, by go_num, hN⟩
      case measure => simp [intOf]; omega
    · have d1 : decide ((k : Int) < 2) = false := decide_eq_false (by omega)
      go_wp2_with fail
      refine (awake_any wr).mono ?_
      rintro _ w4 ⟨rfl, hB4⟩
      go_wp2_with fail
      go_ret
      exact ⟨rfl, hB3.trans ((hB.mono hB3.size).trans (hB4.mono (Nat.le_trans hB3.size hB.size)))⟩
end Go.Proofs.Ytcbomcbflmgmhaa
