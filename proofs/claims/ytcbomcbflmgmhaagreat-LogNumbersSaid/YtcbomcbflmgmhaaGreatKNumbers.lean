/- LogNumbers: over this seat's program. -/
import Derived.Test.YtcbomcbflmgmhaaGreatKLives
namespace Go.Proofs.YtcbomcbflmgmhaaGreat
open Go.RowKit
set_option linter.unusedVariables false
set_option maxRecDepth 100000

def doRow (xs : List Dst) (ads : List (Option Addr × Nat)) : List Value := (List.zipWith (fun (x : Dst) (a : Option Addr × Nat) => doV x a.1 a.2) xs ads).flatten
theorem doRow_get : ∀ (xs : List Dst) (ads : List (Option Addr × Nat)) (i : Nat) (x : Dst) (a : Option Addr × Nat) (j : Nat), xs[i]? = some x → ads[i]? = some a → j < 5 → (doRow xs ads)[i * 5 + j]? = (doV x a.1 a.2)[j]?
  | [], _, i, x, a, j, hx, _, _ => by simp at hx
  | _ :: _, [], i, x, a, j, _, ha, _ => by simp at ha
  | x0 :: xs, a0 :: ads, i, x, a, j, hx, ha, hj => by
    have hl : (doV x0 a0.1 a0.2).length = 5 := rfl
    have e : doRow (x0 :: xs) (a0 :: ads) = doV x0 a0.1 a0.2 ++ doRow xs ads := by simp [doRow]
    rw [e]
    cases i with
    | zero =>
      simp at hx ha
      subst hx ha
      rw [List.getElem?_append_left (by rw [hl]; omega)]
      simp
    | succ i =>
      simp at hx ha
      rw [List.getElem?_append_right (by rw [hl]; omega), hl, show (i + 1) * 5 + j - 5 = i * 5 + j by omega]
      exact doRow_get xs ads i x a j hx ha hj
theorem dos_bk {w : World} {g : Nat} {xs : List Dst} {ads : List (Option Addr × Nat)} {n : Nat} (h : Bk w g 34 (doRow xs ads)) (hn : n = xs.length) (hl : ads.length = xs.length) (hm : n ≤ maxLen) (he : ∀ (j : Nat) (x : Dst) (a : Option Addr × Nat), xs[j]? = some x → ads[j]? = some a → Ents w (fun b => b < w.heap.size) a.1 a.2 x.ns) :
    Dos w (fun b => b < w.heap.size) (some ⟨g, 0, none⟩) n xs := by
  refine ⟨(fun e => by cases e), by omega, hm, fun _ => ⟨_, rfl, fun i x hi => ?_⟩⟩
  have hil := (List.getElem?_eq_some_iff.1 hi).1
  have hia : i < ads.length := by omega
  have ha := List.getElem?_eq_getElem hia
  refine ⟨ads[i].1, ads[i].2, by rw [add_blk]; exact h.lt, fun j hj => ?_, he i x _ hi ha⟩
  rw [Addr.add0]
  have h6 : (⟨g, i * 5, none⟩ : Addr).add j = ⟨g, i * 5 + j, none⟩ := by unfold Addr.add; split <;> simp_all
  rw [h6, h.cell, doRow_get xs ads i x _ j hi ha hj]
theorem ents_nil (w : World) (K : Nat → Prop) : Ents w K none 0 [] := ⟨fun _ => rfl, Nat.le_refl _, by decide, fun h => absurd rfl h⟩
/-- terms of a literal row. -/
theorem terms_lit (l : List Int) (w : World) (n : Nat) (hn : n = l.length) (hl : l.length ≤ 100000) : Calls Tryz.prog 17 #[.slice (some ⟨w.heap.size, 0, none⟩) n n] (w.alloc (.cells (i64s l).toArray 3)) fun e w' => ∃ A c, e = .returned (.slice A n c) ∧ Ents w' (fun b => b < w'.heap.size) A c (l.map enT) ∧ Below w.heap.size w w' := by
  have := terms_new l w n hn hl
  exact this.mono fun e w' ⟨A, c, h1, h2, h3⟩ => ⟨A, c, h1, h2.keep (fun _ _ => rfl) (fun b hb => hb.2), h3⟩
def numsL : List Int := [-9223372036854775808, -1, 0, 1, 2, 3, 4, 5, 1073741824, 9223372036854775807]
set_option linter.unusedSimpArgs false in
set_option maxHeartbeats 8000000 in
theorem LogNumbers_any (w : World) : Calls Tryz.prog 4 #[] w fun e w' => e = .returned (.bool true) ∧ Below w.heap.size w w' := by
  go_enter Tryz.func4, Tryz.ntmps4
  go_wp2_with fail
  have hbk0 : Bk (w.alloc (.cells #[.int .i64 (-9223372036854775808), .int .i64 (-1), .int .i64 0, .int .i64 1, .int .i64 2, .int .i64 3, .int .i64 4, .int .i64 5, .int .i64 1073741824, .int .i64 9223372036854775807] 3)) w.heap.size 3 (numsL.map (Value.int .i64)) := heap_alloc_new w _
  have hab0 : Below w.heap.size w (w.alloc (.cells #[.int .i64 (-9223372036854775808), .int .i64 (-1), .int .i64 0, .int .i64 1, .int .i64 2, .int .i64 3, .int .i64 4, .int .i64 5, .int .i64 1073741824, .int .i64 9223372036854775807] 3)) := (Below.refl _ _).alloc (Nat.le_refl _) _
  have hz0 : (w.alloc (.cells #[.int .i64 (-9223372036854775808), .int .i64 (-1), .int .i64 0, .int .i64 1, .int .i64 2, .int .i64 3, .int .i64 4, .int .i64 5, .int .i64 1073741824, .int .i64 9223372036854775807] 3)).heap.size = w.heap.size + 1 := by simp
  generalize w.alloc (.cells #[.int .i64 (-9223372036854775808), .int .i64 (-1), .int .i64 0, .int .i64 1, .int .i64 2, .int .i64 3, .int .i64 4, .int .i64 5, .int .i64 1073741824, .int .i64 9223372036854775807] 3) = wn at *
  have hcon := terms_lit [1, 2, 2, 3] wn 4 rfl (by decide)
  rw [hz0] at hcon
  refine hcon.mono ?_
  rintro _ w1 ⟨Af, cf, rfl, hEf0, hb1⟩
  rw [← hz0] at hb1
  clear hcon
  have hz1 := hb1.size
  have hbk1 : Bk w1 w.heap.size 3 (numsL.map (Value.int .i64)) := (hb1.block _ (by omega)).trans hbk0
  have hbw1 : Below w.heap.size w w1 := hab0.trans (hb1.mono (by omega))
  clear hbk0 hab0 hb1
  go_wp2_with fail
  go_loopw [3] (fun v wr => ∃ i : Nat, i ≤ 10 ∧ v = .int .i64 i ∧ Below w1.heap.size w1 wr) (fun v _ => 10 - (intOf v).toNat)
  case atStart => exact ⟨0, by omega, rfl, Below.refl _ _⟩
  case round =>
    obtain ⟨i, hi, rfl, hbi⟩ := hrel
    by_cases hlt : i < 10
    · have d1 : decide ((i : Int) < 10) = true := decide_eq_true (by omega)
      go_wp2_with fail
      obtain ⟨wo, rfl⟩ : ∃ wo : World, wo = wr := ⟨_, rfl⟩
      go_loopw [4] (fun v wr => ∃ k : Nat, k ≤ 10 ∧ v = .int .i64 k ∧ Below w1.heap.size w1 wr) (fun v _ => 10 - (intOf v).toNat)
      case atStart => exact ⟨0, by omega, rfl, hbi⟩
      case round =>
        clear hbi
        obtain ⟨k, hk, rfl, hb⟩ := hrel
        by_cases hlt2 : k < 10
        · have d2 : decide ((k : Int) < 10) = true := decide_eq_true (by omega)
          have hbk : Bk wr w.heap.size 3 (numsL.map (Value.int .i64)) := (hb.block _ hbk1.lt).trans hbk1
          obtain ⟨zi, ci⟩ : ∃ z : Int, wr.cell? ⟨w.heap.size, i, none⟩ = some (.int .i64 z) := ⟨numsL[i]'hlt, by rw [hbk.cell, List.getElem?_map, List.getElem?_eq_getElem (show i < numsL.length from hlt)]; rfl⟩
          obtain ⟨zk, ck⟩ : ∃ z : Int, wr.cell? ⟨w.heap.size, k, none⟩ = some (.int .i64 z) := ⟨numsL[k]'hlt2, by rw [hbk.cell, List.getElem?_map, List.getElem?_eq_getElem (show k < numsL.length from hlt2)]; rfl⟩
          have i1 : (0 : Int) ≤ (i : Int) := by omega
          have i2 : (i : Int) < 10 := by omega
          have i3 : (0 : Int) ≤ (k : Int) := by omega
          have i4 : (k : Int) < 10 := by omega
          have hEf : Ents wr (fun b => b < wr.heap.size) Af cf ([1, 2, 2, 3].map enT) := hEf0.keep (fun b hb' => hb.block b hb') (fun b hb' => Nat.lt_of_lt_of_le hb' hb.size)
          clear hbk
          have keepS : ∀ w', Below wr.heap.size wr w' → ((w'.cell? ⟨w.heap.size, i, none⟩ = some (.int .i64 zi) ∧ w'.cell? ⟨w.heap.size, k, none⟩ = some (.int .i64 zk)) ∧ Below wr.heap.size wr w') := fun w' hb' => ⟨⟨(hb'.cell (World.block_lt_of_cell? wr _ ci)).trans ci, (hb'.cell (World.block_lt_of_cell? wr _ ck)).trans ck⟩, hb'⟩
          go_wp2_with fail
          refine wp_region_held_drew (S := fun w' => ((w'.cell? ⟨w.heap.size, i, none⟩ = some (.int .i64 zi) ∧ w'.cell? ⟨w.heap.size, k, none⟩ = some (.int .i64 zk)) ∧ Below wr.heap.size wr w')) (by kernel_rfl) (keepS _ (Below.refl _ _).drew) (fun hS9 => ?_)
          refine wpAnyH_take (i := 0) (v := ?_) rfl (by kernel_rfl) (by kernel_rfl) (by kernel_rfl) (fun _ _ _ h => h) (Or.inl ⟨by rfl, ?_⟩) hS9 ?_
          rotate_left 1
          · intro w' hSw
            go_simp <;> with_reducible rfl
          try simp only [List.getElem_toArray, List.getElem_cons_zero, List.getElem_cons_succ, Act.put, List.setIfInBounds_toArray, List.set_cons_zero, List.set_cons_succ]
          refine wpAnyH_take (i := 1) (v := ?_) rfl (by kernel_rfl) (by kernel_rfl) (by kernel_rfl) (fun _ _ _ h => h) (Or.inl ⟨by rfl, ?_⟩) hS9 ?_
          rotate_left 1
          · intro w' hSw
            go_simp <;> with_reducible rfl
          try simp only [List.getElem_toArray, List.getElem_cons_zero, List.getElem_cons_succ, Act.put, List.setIfInBounds_toArray, List.set_cons_zero, List.set_cons_succ]
          refine wpAnyH_take (i := 2) (v := ?_) rfl (by kernel_rfl) (by kernel_rfl) (by kernel_rfl) (fun _ _ _ h => h) (Or.inl ⟨by rfl, ?_⟩) hS9 ?_
          rotate_left 1
          · intro w' hSw
            go_simp <;> with_reducible rfl
          try simp only [List.getElem_toArray, List.getElem_cons_zero, List.getElem_cons_succ, Act.put, List.setIfInBounds_toArray, List.set_cons_zero, List.set_cons_succ]
          refine wpAnyH_take (i := 3) (v := ?_) rfl (by kernel_rfl) (by kernel_rfl) (by kernel_rfl) (fun _ _ _ h => h) (Or.inl ⟨by rfl, ?_⟩) hS9 ?_
          rotate_left 1
          · intro w' hSw
            go_simp <;> with_reducible rfl
          try simp only [List.getElem_toArray, List.getElem_cons_zero, List.getElem_cons_succ, Act.put, List.setIfInBounds_toArray, List.set_cons_zero, List.set_cons_succ]
          refine wpAnyH_take (i := 4) (v := ?_) rfl (by kernel_rfl) (by kernel_rfl) (by kernel_rfl) (fun _ _ _ h => h) (Or.inl ⟨by rfl, ?_⟩) hS9 ?_
          rotate_left 1
          · intro w' hSw
            go_simp <;> with_reducible rfl
          try simp only [List.getElem_toArray, List.getElem_cons_zero, List.getElem_cons_succ, Act.put, List.setIfInBounds_toArray, List.set_cons_zero, List.set_cons_succ]
          refine wpAnyH_take (i := 5) (v := ?_) rfl (by kernel_rfl) (by kernel_rfl) (by kernel_rfl) (fun _ _ _ h => h) (Or.inl ⟨by rfl, ?_⟩) hS9 ?_
          rotate_left 1
          · intro w' hSw
            go_simp <;> with_reducible rfl
          try simp only [List.getElem_toArray, List.getElem_cons_zero, List.getElem_cons_succ, Act.put, List.setIfInBounds_toArray, List.set_cons_zero, List.set_cons_succ]
          refine wpAnyH_take (i := 6) (v := ?_) rfl (by kernel_rfl) (by kernel_rfl) (by kernel_rfl) (fun _ _ _ h => h) (Or.inl ⟨by rfl, ?_⟩) hS9 ?_
          rotate_left 1
          · intro w' hSw
            go_simp <;> with_reducible rfl
          try simp only [List.getElem_toArray, List.getElem_cons_zero, List.getElem_cons_succ, Act.put, List.setIfInBounds_toArray, List.set_cons_zero, List.set_cons_succ]
          refine wpAnyH_take (i := 7) (v := ?_) rfl (by kernel_rfl) (by kernel_rfl) (by kernel_rfl) (fun _ _ _ h => h) (Or.inl ⟨by rfl, ?_⟩) hS9 ?_
          rotate_left 1
          · intro w' hSw
            go_simp <;> with_reducible rfl
          try simp only [List.getElem_toArray, List.getElem_cons_zero, List.getElem_cons_succ, Act.put, List.setIfInBounds_toArray, List.set_cons_zero, List.set_cons_succ]
          refine wpAnyH_take (i := 8) (v := ?_) rfl (by kernel_rfl) (by kernel_rfl) (by kernel_rfl) (fun _ _ _ h => h) (Or.inl ⟨by rfl, ?_⟩) hS9 ?_
          rotate_left 1
          · intro w' hSw
            go_simp <;> with_reducible rfl
          try simp only [List.getElem_toArray, List.getElem_cons_zero, List.getElem_cons_succ, Act.put, List.setIfInBounds_toArray, List.set_cons_zero, List.set_cons_succ]
          refine wpAnyH_take (i := 9) (v := ?_) rfl (by kernel_rfl) (by kernel_rfl) (by kernel_rfl) (fun _ _ _ h => h) (Or.inl ⟨by rfl, ?_⟩) hS9 ?_
          rotate_left 1
          · intro w' hSw
            go_simp <;> with_reducible rfl
          try simp only [List.getElem_toArray, List.getElem_cons_zero, List.getElem_cons_succ, Act.put, List.setIfInBounds_toArray, List.set_cons_zero, List.set_cons_succ]
          refine wpAnyH_take (i := 10) (v := ?_) rfl (by kernel_rfl) (by kernel_rfl) (by kernel_rfl) (fun _ _ _ h => h) (Or.inl ⟨by rfl, ?_⟩) hS9 ?_
          rotate_left 1
          · intro w' hSw
            go_simp <;> with_reducible rfl
          try simp only [List.getElem_toArray, List.getElem_cons_zero, List.getElem_cons_succ, Act.put, List.setIfInBounds_toArray, List.set_cons_zero, List.set_cons_succ]
          refine wpAnyH_take (i := 11) (v := ?_) rfl (by kernel_rfl) (by kernel_rfl) (by kernel_rfl) (fun _ _ _ h => h) (Or.inl ⟨by rfl, ?_⟩) hS9 ?_
          rotate_left 1
          · intro w' hSw
            go_simp <;> with_reducible rfl
          try simp only [List.getElem_toArray, List.getElem_cons_zero, List.getElem_cons_succ, Act.put, List.setIfInBounds_toArray, List.set_cons_zero, List.set_cons_succ]
          refine wpAnyH_take (i := 12) (v := ?_) rfl (by kernel_rfl) (by kernel_rfl) (by kernel_rfl) (fun _ _ _ h => h) (Or.inl ⟨by rfl, ?_⟩) hS9 ?_
          rotate_left 1
          · intro w' hSw
            go_simp <;> with_reducible rfl
          try simp only [List.getElem_toArray, List.getElem_cons_zero, List.getElem_cons_succ, Act.put, List.setIfInBounds_toArray, List.set_cons_zero, List.set_cons_succ]
          refine wpAnyH_take (i := 13) (v := ?_) rfl (by kernel_rfl) (by kernel_rfl) (by kernel_rfl) (fun _ _ _ h => h) (Or.inl ⟨by rfl, ?_⟩) hS9 ?_
          rotate_left 1
          · intro w' hSw
            go_simp <;> with_reducible rfl
          try simp only [List.getElem_toArray, List.getElem_cons_zero, List.getElem_cons_succ, Act.put, List.setIfInBounds_toArray, List.set_cons_zero, List.set_cons_succ]
          refine wpAnyH_take (i := 14) (v := ?_) rfl (by kernel_rfl) (by kernel_rfl) (by kernel_rfl) (fun _ _ _ h => h) (Or.inl ⟨by rfl, ?_⟩) hS9 ?_
          rotate_left 1
          · intro w' hSw
            go_simp <;> with_reducible rfl
          try simp only [List.getElem_toArray, List.getElem_cons_zero, List.getElem_cons_succ, Act.put, List.setIfInBounds_toArray, List.set_cons_zero, List.set_cons_succ]
          refine wpAnyH_take (i := 15) (v := ?_) rfl (by kernel_rfl) (by kernel_rfl) (by kernel_rfl) (fun _ _ _ h => h) (Or.inl ⟨by rfl, ?_⟩) hS9 ?_
          rotate_left 1
          · intro w' hSw
            go_simp <;> with_reducible rfl
          try simp only [List.getElem_toArray, List.getElem_cons_zero, List.getElem_cons_succ, Act.put, List.setIfInBounds_toArray, List.set_cons_zero, List.set_cons_succ]
          refine wpAnyH_take (i := 16) (v := ?_) rfl (by kernel_rfl) (by kernel_rfl) (by kernel_rfl) (fun _ _ _ h => h) (Or.inl ⟨by rfl, ?_⟩) hS9 ?_
          rotate_left 1
          · intro w' hSw
            go_simp <;> with_reducible rfl
          try simp only [List.getElem_toArray, List.getElem_cons_zero, List.getElem_cons_succ, Act.put, List.setIfInBounds_toArray, List.set_cons_zero, List.set_cons_succ]
          refine wpAnyH_take (i := 17) (v := ?_) rfl (by kernel_rfl) (by kernel_rfl) (by kernel_rfl) (fun _ _ _ h => h) (Or.inl ⟨by rfl, ?_⟩) hS9 ?_
          rotate_left 1
          · intro w' hSw
            go_simp <;> with_reducible rfl
          try simp only [List.getElem_toArray, List.getElem_cons_zero, List.getElem_cons_succ, Act.put, List.setIfInBounds_toArray, List.set_cons_zero, List.set_cons_succ]
          refine wpAnyH_take (i := 18) (v := ?_) rfl (by kernel_rfl) (by kernel_rfl) (by kernel_rfl) (fun _ _ _ h => h) (Or.inl ⟨by rfl, ?_⟩) hS9 ?_
          rotate_left 1
          · intro w' hSw
            go_simp <;> with_reducible rfl
          try simp only [List.getElem_toArray, List.getElem_cons_zero, List.getElem_cons_succ, Act.put, List.setIfInBounds_toArray, List.set_cons_zero, List.set_cons_succ]
          refine wpAnyH_take (i := 19) (v := ?_) rfl (by kernel_rfl) (by kernel_rfl) (by kernel_rfl) (fun _ _ _ h => h) (Or.inl ⟨by rfl, ?_⟩) hS9 ?_
          rotate_left 1
          · intro w' hSw
            go_simp <;> with_reducible rfl
          try simp only [List.getElem_toArray, List.getElem_cons_zero, List.getElem_cons_succ, Act.put, List.setIfInBounds_toArray, List.set_cons_zero, List.set_cons_succ]
          refine wpAnyH_take (i := 20) (v := ?_) rfl (by kernel_rfl) (by kernel_rfl) (by kernel_rfl) (fun _ _ _ h => h) (Or.inl ⟨by rfl, ?_⟩) hS9 ?_
          rotate_left 1
          · intro w' hSw
            go_simp <;> with_reducible rfl
          try simp only [List.getElem_toArray, List.getElem_cons_zero, List.getElem_cons_succ, Act.put, List.setIfInBounds_toArray, List.set_cons_zero, List.set_cons_succ]
          refine wpAnyH_take (i := 21) (v := ?_) rfl (by kernel_rfl) (by kernel_rfl) (by kernel_rfl) (fun _ _ _ h => h) (Or.inl ⟨by rfl, ?_⟩) hS9 ?_
          rotate_left 1
          · intro w' hSw
            go_simp <;> with_reducible rfl
          try simp only [List.getElem_toArray, List.getElem_cons_zero, List.getElem_cons_succ, Act.put, List.setIfInBounds_toArray, List.set_cons_zero, List.set_cons_succ]
          refine wpAnyH_take (i := 22) (v := ?_) rfl (by kernel_rfl) (by kernel_rfl) (by kernel_rfl) (fun _ _ _ h => h) (Or.inl ⟨by rfl, ?_⟩) hS9 ?_
          rotate_left 1
          · intro w' hSw
            go_simp <;> with_reducible rfl
          try simp only [List.getElem_toArray, List.getElem_cons_zero, List.getElem_cons_succ, Act.put, List.setIfInBounds_toArray, List.set_cons_zero, List.set_cons_succ]
          refine wpAnyH_take (i := 26) (v := ?_) rfl (by kernel_rfl) (by kernel_rfl) (by kernel_rfl) (fun _ _ _ h => h) (Or.inl ⟨by rfl, ?_⟩) hS9 ?_
          rotate_left 1
          · intro w' hSw
            go_simp <;> with_reducible rfl
          try simp only [List.getElem_toArray, List.getElem_cons_zero, List.getElem_cons_succ, Act.put, List.setIfInBounds_toArray, List.set_cons_zero, List.set_cons_succ]
          refine wpAnyH_ready (rs := [23]) (by kernel_rfl) (by simp) (AllReadyH.cons rfl (fun K9 hK9 => ?_) AllReadyH.nil)
          go_simp
          refine hK9.out _ _ (keepS _ (((Below.refl _ _).drew).alloc (Nat.le_refl _) _)) (fun hS9 => ?_)
          clear hK9 K9
          try simp only [List.getElem_toArray, List.getElem_cons_zero, List.getElem_cons_succ, Act.put, List.setIfInBounds_toArray, List.set_cons_zero, List.set_cons_succ]
          refine wpAnyH_ready (rs := [24]) (by kernel_rfl) (by simp) (AllReadyH.cons rfl (fun K9 hK9 => ?_) AllReadyH.nil)
          go_simp
          refine (terms_lit [9] wr.drew 1 rfl (by decide)).mono ?_
          rintro _ w5 ⟨A1, c1, rfl, hE1, hb5⟩
          go_simp
          have hB5 : Below wr.heap.size wr w5 := ((Below.refl _ _).drew).trans hb5
          refine hK9.out _ _ (keepS _ hB5) (fun hS9 => ?_)
          clear hK9 K9
          try simp only [List.getElem_toArray, List.getElem_cons_zero, List.getElem_cons_succ, Act.put, List.setIfInBounds_toArray, List.set_cons_zero, List.set_cons_succ]
          refine wpAnyH_take (i := 25) (v := ?_) rfl (by kernel_rfl) (by kernel_rfl) (by kernel_rfl) (fun _ _ _ h => h) (Or.inl ⟨by rfl, ?_⟩) hS9 ?_
          rotate_left 1
          · intro w' hSw
            go_simp <;> with_reducible rfl
          try simp only [List.getElem_toArray, List.getElem_cons_zero, List.getElem_cons_succ, Act.put, List.setIfInBounds_toArray, List.set_cons_zero, List.set_cons_succ]
          refine wpAnyH_ready (rs := [27]) (by kernel_rfl) (by simp) (AllReadyH.cons rfl (fun K9 hK9 => ?_) AllReadyH.nil)
          go_simp
          refine hK9.out _ _ (keepS _ (hB5.alloc hB5.size _)) (fun hS9 => ?_)
          clear hK9 K9
          try simp only [List.getElem_toArray, List.getElem_cons_zero, List.getElem_cons_succ, Act.put, List.setIfInBounds_toArray, List.set_cons_zero, List.set_cons_succ]
          refine wpAnyH_ready (rs := [28]) (by kernel_rfl) (by simp) (AllReadyH.cons rfl (fun K9 hK9 => ?_) AllReadyH.nil)
          go_simp
          have hab : Below w5.heap.size w5 (w5.alloc (.cells #[.int .i64 4, .int .i64 zi, .int .i64 0, .int .i64 zk, .slice none 0 0, .int .i64 5, .int .i64 zi, .int .i64 0, .int .i64 0, .slice none 0 0, .int .i64 1, .int .i64 zi, .int .i64 zk, .int .i64 0, .slice A1 1 c1, .int .i64 4, .int .i64 1, .int .i64 0, .int .i64 9, .slice none 0 0] 34)) := (Below.refl _ _).alloc (Nat.le_refl _) _
          have hbk : Bk (w5.alloc (.cells #[.int .i64 4, .int .i64 zi, .int .i64 0, .int .i64 zk, .slice none 0 0, .int .i64 5, .int .i64 zi, .int .i64 0, .int .i64 0, .slice none 0 0, .int .i64 1, .int .i64 zi, .int .i64 zk, .int .i64 0, .slice A1 1 c1, .int .i64 4, .int .i64 1, .int .i64 0, .int .i64 9, .slice none 0 0] 34)) w5.heap.size 34 (doRow [⟨4, zi, 0, zk, []⟩, ⟨5, zi, 0, 0, []⟩, ⟨1, zi, zk, 0, [9].map enT⟩, ⟨4, 1, 0, 9, []⟩] [(none, 0), (none, 0), (A1, c1), (none, 0)]) := heap_alloc_new w5 _
          have hdd : ∀ (j : Nat) (x : Dst) (a : Option Addr × Nat), ([⟨4, zi, 0, zk, []⟩, ⟨5, zi, 0, 0, []⟩, ⟨1, zi, zk, 0, [9].map enT⟩, ⟨4, 1, 0, 9, []⟩] : List Dst)[j]? = some x → ([(none, 0), (none, 0), (A1, c1), (none, 0)] : List (Option Addr × Nat))[j]? = some a → Ents (w5.alloc (.cells #[.int .i64 4, .int .i64 zi, .int .i64 0, .int .i64 zk, .slice none 0 0, .int .i64 5, .int .i64 zi, .int .i64 0, .int .i64 0, .slice none 0 0, .int .i64 1, .int .i64 zi, .int .i64 zk, .int .i64 0, .slice A1 1 c1, .int .i64 4, .int .i64 1, .int .i64 0, .int .i64 9, .slice none 0 0] 34)) (fun b => b < (w5.alloc (.cells #[.int .i64 4, .int .i64 zi, .int .i64 0, .int .i64 zk, .slice none 0 0, .int .i64 5, .int .i64 zi, .int .i64 0, .int .i64 0, .slice none 0 0, .int .i64 1, .int .i64 zi, .int .i64 zk, .int .i64 0, .slice A1 1 c1, .int .i64 4, .int .i64 1, .int .i64 0, .int .i64 9, .slice none 0 0] 34)).heap.size) a.1 a.2 x.ns := by
            intro j x a hx ha
            match j, hx, ha with
            | 0, hx, ha => simp at hx ha; subst hx ha; exact ents_nil _ _
            | 1, hx, ha => simp at hx ha; subst hx ha; exact ents_nil _ _
            | 2, hx, ha => simp at hx ha; subst hx ha; exact hE1.keep (fun b hb' => hab.block b hb') (fun b hb' => Nat.lt_of_lt_of_le hb' hab.size)
            | 3, hx, ha => simp at hx ha; subst hx ha; exact ents_nil _ _
            | j + 4, hx, ha => simp at hx
          have hz5 := hB5.size
          refine (LogLives_any (fun b => b < (w5.alloc (.cells #[.int .i64 4, .int .i64 zi, .int .i64 0, .int .i64 zk, .slice none 0 0, .int .i64 5, .int .i64 zi, .int .i64 0, .int .i64 0, .slice none 0 0, .int .i64 1, .int .i64 zi, .int .i64 zk, .int .i64 0, .slice A1 1 c1, .int .i64 4, .int .i64 1, .int .i64 0, .int .i64 9, .slice none 0 0] 34)).heap.size) Af cf ([1, 2, 2, 3].map enT) (some ⟨w5.heap.size, 0, none⟩) 4 [⟨4, zi, 0, zk, []⟩, ⟨5, zi, 0, 0, []⟩, ⟨1, zi, zk, 0, [9].map enT⟩, ⟨4, 1, 0, 9, []⟩] _ (hEf.keep (fun b hb' => (hab.block b (by omega)).trans (hB5.block b hb')) (fun b hb' => by simp; omega)) (dos_bk hbk rfl (by simp) (by decide) hdd) (fun _ h => h)).mono ?_
          rintro _ w7 ⟨rfl, hb7⟩
          go_simp
          have hB7 : Below wr.heap.size wr w7 := (hB5.trans (hab.mono hz5)).trans (hb7.mono (by simp; omega))
          refine hK9.out _ _ (keepS _ hB7) (fun hS9 => ?_)
          clear hK9 K9
          try simp only [List.getElem_toArray, List.getElem_cons_zero, List.getElem_cons_succ, Act.put, List.setIfInBounds_toArray, List.set_cons_zero, List.set_cons_succ]
          refine wpAnyH_take (i := 29) (v := ?_) rfl (by kernel_rfl) (by kernel_rfl) (by kernel_rfl) (fun _ _ _ h => h) (Or.inl ⟨by rfl, ?_⟩) hS9 ?_
          rotate_left 1
          · intro w' hSw
            go_simp <;> with_reducible rfl
          try simp only [List.getElem_toArray, List.getElem_cons_zero, List.getElem_cons_succ, Act.put, List.setIfInBounds_toArray, List.set_cons_zero, List.set_cons_succ]
          refine wpAnyH_done (by kernel_rfl) ?_ _
          have hb9 := hb.trans (hB7.mono hb.size)
          clear hb hB7 hb7 hdd hbk hab hB5 hb5 keepS ci ck hS9
          go_wp2_with fail
          go_roundw
          case rel => exact ⟨k + 1, by omega, by go_num, hb9⟩
          case measure => simp [intOf]; omega
        · have d2 : decide ((k : Int) < 10) = false := decide_eq_false (by omega)
          go_wp2_with fail
          go_roundw
          case rel => exact ⟨i + 1, by omega, by go_num, hb⟩
          case measure => simp [intOf]; omega
    · have d1 : decide ((i : Int) < 10) = false := decide_eq_false (by omega)
      go_wp2_with fail
      obtain ⟨wp, rfl⟩ : ∃ wp : World, wp = wr := ⟨_, rfl⟩
      go_loopw [5] (fun v wr => ∃ n : Nat, n ≤ 135 ∧ v = .int .i64 n ∧ Below w1.heap.size w1 wr) (fun v _ => 135 - (intOf v).toNat)
      case atStart => exact ⟨0, by omega, rfl, hbi⟩
      case round =>
        clear hbi
        obtain ⟨n, hn, rfl, hb⟩ := hrel
        have hEf : Ents wr (fun b => b < wr.heap.size) Af cf ([1, 2, 2, 3].map enT) := hEf0.keep (fun b hb' => hb.block b hb') (fun b hb' => Nat.lt_of_lt_of_le hb' hb.size)
        by_cases hn2 : n < 135
        · have d1 : decide ((n : Int) < 135) = true := decide_eq_true (by omega)
          have n0 : (0 : Int) ≤ (n : Int) := by omega
          have hcn := refNew_any (fun b => b < wr.heap.size) Af cf ([1, 2, 2, 3].map enT) wr hEf (fun _ h => h) (by simp) (fun e he => by simp at he; rcases he with rfl | rfl | rfl <;> simp [enT])
          go_wp2_with fail
          refine hcn.mono ?_
          rintro _ w5 ⟨q, rfl, hR5, hb5⟩
          clear hcn
          go_wp2_with fail
          refine (refTerm_S _ w5 q _ _ hR5).mono ?_
          rintro _ w6 ⟨rfl, hb6⟩
          have hB6 : Below wr.heap.size wr w6 := hb5.trans (hb6.mono hb5.size)
          clear hR5 hb5 hb6
          generalize termAt _ _ = zt
          generalize hasAt _ _ = zh
          go_wp2_with fail
          generalize ((n : Int) / 27) = za
          generalize (1 + (n : Int) % 3) = t1
          generalize (1 + (n : Int) / 3 % 3) = t2
          generalize (1 + (n : Int) / 9 % 3) = t3
          refine (terms_lit [t1, t2, t3] w6 3 rfl (by simp)).mono ?_
          rintro _ w7 ⟨A1, c1, rfl, hE1, hb7⟩
          have hB7 : Below wr.heap.size wr w7 := hB6.trans (hb7.mono hB6.size)
          go_wp2_with fail
          generalize (1 + (n : Int) % 3) = t4
          refine (terms_lit [t4] w7 1 rfl (by simp)).mono ?_
          rintro _ w8 ⟨A2, c2, rfl, hE2, hb8⟩
          have hB8 : Below wr.heap.size wr w8 := hB7.trans (hb8.mono hB7.size)
          have hz8 := hB8.size
          replace hE1 := hE1.keep (w' := w8) (K' := fun b => b < w8.heap.size) (fun b hb' => hb8.block b hb') (fun b hb' => Nat.lt_of_lt_of_le hb' hb8.size)
          have hab : Below w8.heap.size w8 (w8.alloc (.cells #[.int .i64 1, .int .i64 za, .int .i64 zt, .int .i64 0, .slice A1 3 c1, .int .i64 1, .int .i64 za, .int .i64 zt, .int .i64 0, .slice A2 1 c2, .int .i64 1, .int .i64 za, .int .i64 zt, .int .i64 0, .slice none 0 0] 34)) := (Below.refl _ _).alloc (Nat.le_refl _) _
          have hbk : Bk (w8.alloc (.cells #[.int .i64 1, .int .i64 za, .int .i64 zt, .int .i64 0, .slice A1 3 c1, .int .i64 1, .int .i64 za, .int .i64 zt, .int .i64 0, .slice A2 1 c2, .int .i64 1, .int .i64 za, .int .i64 zt, .int .i64 0, .slice none 0 0] 34)) w8.heap.size 34 (doRow [⟨1, za, zt, 0, [t1, t2, t3].map enT⟩, ⟨1, za, zt, 0, [t4].map enT⟩, ⟨1, za, zt, 0, []⟩] [(A1, c1), (A2, c2), (none, 0)]) := heap_alloc_new w8 _
          have hdd : ∀ (j : Nat) (x : Dst) (a : Option Addr × Nat), ([⟨1, za, zt, 0, [t1, t2, t3].map enT⟩, ⟨1, za, zt, 0, [t4].map enT⟩, ⟨1, za, zt, 0, []⟩] : List Dst)[j]? = some x → ([(A1, c1), (A2, c2), (none, 0)] : List (Option Addr × Nat))[j]? = some a → Ents (w8.alloc (.cells #[.int .i64 1, .int .i64 za, .int .i64 zt, .int .i64 0, .slice A1 3 c1, .int .i64 1, .int .i64 za, .int .i64 zt, .int .i64 0, .slice A2 1 c2, .int .i64 1, .int .i64 za, .int .i64 zt, .int .i64 0, .slice none 0 0] 34)) (fun b => b < (w8.alloc (.cells #[.int .i64 1, .int .i64 za, .int .i64 zt, .int .i64 0, .slice A1 3 c1, .int .i64 1, .int .i64 za, .int .i64 zt, .int .i64 0, .slice A2 1 c2, .int .i64 1, .int .i64 za, .int .i64 zt, .int .i64 0, .slice none 0 0] 34)).heap.size) a.1 a.2 x.ns := by
            intro j x a hx ha
            match j, hx, ha with
            | 0, hx, ha => simp at hx ha; subst hx ha; exact hE1.keep (fun b hb' => hab.block b hb') (fun b hb' => Nat.lt_of_lt_of_le hb' hab.size)
            | 1, hx, ha => simp at hx ha; subst hx ha; exact hE2.keep (fun b hb' => hab.block b hb') (fun b hb' => Nat.lt_of_lt_of_le hb' hab.size)
            | 2, hx, ha => simp at hx ha; subst hx ha; exact ents_nil _ _
            | j + 3, hx, ha => simp at hx
          go_wp2_with fail
          refine (LogLives_any (fun b => b < (w8.alloc (.cells #[.int .i64 1, .int .i64 za, .int .i64 zt, .int .i64 0, .slice A1 3 c1, .int .i64 1, .int .i64 za, .int .i64 zt, .int .i64 0, .slice A2 1 c2, .int .i64 1, .int .i64 za, .int .i64 zt, .int .i64 0, .slice none 0 0] 34)).heap.size) Af cf ([1, 2, 2, 3].map enT) (some ⟨w8.heap.size, 0, none⟩) 3 [⟨1, za, zt, 0, [t1, t2, t3].map enT⟩, ⟨1, za, zt, 0, [t4].map enT⟩, ⟨1, za, zt, 0, []⟩] _ (hEf.keep (fun b hb' => (hab.block b (by omega)).trans (hB8.block b hb')) (fun b hb' => by simp; omega)) (dos_bk hbk rfl (by simp) (by decide) hdd) (fun _ h => h)).mono ?_
          rintro _ w9 ⟨rfl, hb9⟩
          have hb10 := hb.trans (((hB8.trans (hab.mono hz8)).trans (hb9.mono (by simp; omega))).mono hb.size)
          clear hb hb9 hdd hbk hab hB8 hb8 hE2 hE1 hB7 hb7 hB6 hEf
          go_wp2_with fail
          go_roundw
          case rel => exact ⟨n + 1, by omega, by go_num, hb10⟩
          case measure => simp [intOf]; omega
        · have d1 : decide ((n : Int) < 135) = false := decide_eq_false (by omega)
          go_wp2_with fail
          refine (terms_lit [5] wr 1 rfl (by simp)).mono ?_
          rintro _ w7 ⟨A1, c1, rfl, hE1, hb7⟩
          go_wp2_with fail
          refine (terms_lit [5, 6] w7 2 rfl (by simp)).mono ?_
          rintro _ w8 ⟨A2, c2, rfl, hE2, hb8⟩
          have hB8 : Below wr.heap.size wr w8 := hb7.trans (hb8.mono hb7.size)
          have hz8 := hB8.size
          replace hE1 := hE1.keep (w' := w8) (K' := fun b => b < w8.heap.size) (fun b hb' => hb8.block b hb') (fun b hb' => Nat.lt_of_lt_of_le hb' hb8.size)
          have hab : Below w8.heap.size w8 (w8.alloc (.cells #[.int .i64 1, .int .i64 0, .int .i64 0, .int .i64 0, .slice none 0 0, .int .i64 0, .int .i64 0, .int .i64 0, .int .i64 0, .slice A1 1 c1, .int .i64 1, .int .i64 1, .int .i64 5, .int .i64 0, .slice A2 2 c2] 34)) := (Below.refl _ _).alloc (Nat.le_refl _) _
          have hbk : Bk (w8.alloc (.cells #[.int .i64 1, .int .i64 0, .int .i64 0, .int .i64 0, .slice none 0 0, .int .i64 0, .int .i64 0, .int .i64 0, .int .i64 0, .slice A1 1 c1, .int .i64 1, .int .i64 1, .int .i64 5, .int .i64 0, .slice A2 2 c2] 34)) w8.heap.size 34 (doRow [⟨1, 0, 0, 0, []⟩, ⟨0, 0, 0, 0, [5].map enT⟩, ⟨1, 1, 5, 0, [5, 6].map enT⟩] [(none, 0), (A1, c1), (A2, c2)]) := heap_alloc_new w8 _
          have hdd : ∀ (j : Nat) (x : Dst) (a : Option Addr × Nat), ([⟨1, 0, 0, 0, []⟩, ⟨0, 0, 0, 0, [5].map enT⟩, ⟨1, 1, 5, 0, [5, 6].map enT⟩] : List Dst)[j]? = some x → ([(none, 0), (A1, c1), (A2, c2)] : List (Option Addr × Nat))[j]? = some a → Ents (w8.alloc (.cells #[.int .i64 1, .int .i64 0, .int .i64 0, .int .i64 0, .slice none 0 0, .int .i64 0, .int .i64 0, .int .i64 0, .int .i64 0, .slice A1 1 c1, .int .i64 1, .int .i64 1, .int .i64 5, .int .i64 0, .slice A2 2 c2] 34)) (fun b => b < (w8.alloc (.cells #[.int .i64 1, .int .i64 0, .int .i64 0, .int .i64 0, .slice none 0 0, .int .i64 0, .int .i64 0, .int .i64 0, .int .i64 0, .slice A1 1 c1, .int .i64 1, .int .i64 1, .int .i64 5, .int .i64 0, .slice A2 2 c2] 34)).heap.size) a.1 a.2 x.ns := by
            intro j x a hx ha
            match j, hx, ha with
            | 0, hx, ha => simp at hx ha; subst hx ha; exact ents_nil _ _
            | 1, hx, ha => simp at hx ha; subst hx ha; exact hE1.keep (fun b hb' => hab.block b hb') (fun b hb' => Nat.lt_of_lt_of_le hb' hab.size)
            | 2, hx, ha => simp at hx ha; subst hx ha; exact hE2.keep (fun b hb' => hab.block b hb') (fun b hb' => Nat.lt_of_lt_of_le hb' hab.size)
            | j + 3, hx, ha => simp at hx
          go_wp2_with fail
          refine (LogLives_any (fun b => b < (w8.alloc (.cells #[.int .i64 1, .int .i64 0, .int .i64 0, .int .i64 0, .slice none 0 0, .int .i64 0, .int .i64 0, .int .i64 0, .int .i64 0, .slice A1 1 c1, .int .i64 1, .int .i64 1, .int .i64 5, .int .i64 0, .slice A2 2 c2] 34)).heap.size) none 0 [] (some ⟨w8.heap.size, 0, none⟩) 3 [⟨1, 0, 0, 0, []⟩, ⟨0, 0, 0, 0, [5].map enT⟩, ⟨1, 1, 5, 0, [5, 6].map enT⟩] _ (ents_nil _ _) (dos_bk hbk rfl (by simp) (by decide) hdd) (fun _ h => h)).mono ?_
          rintro _ w9 ⟨rfl, hb9⟩
          have hb10 := hb.trans (((hB8.trans (hab.mono hz8)).trans (hb9.mono (by simp; omega))).mono hb.size)
          clear hb hb9 hdd hbk hab hB8 hb8 hE2 hE1 hb7 hEf
          go_wp2_with fail
          refine (awake_any w9).mono ?_
          rintro _ w11 ⟨rfl, hb11⟩
          go_wp2_with fail
          go_ret
          exact ⟨rfl, (hbw1.trans (hb10.mono hbw1.size)).trans (hb11.mono (Nat.le_trans hbw1.size hb10.size))⟩
end Go.Proofs.YtcbomcbflmgmhaaGreat
