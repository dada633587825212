/- disk: DiskNumbers. -/
import Derived.Test.YtcmbeolicopicaaGreatE28
import Derived.Deep.DeepCutAuto
namespace Go.Proofs.YtcmbeolicopicaaGreat
open Go.RowKit Go.Maps Go.ChangeMaps
set_option linter.unusedVariables false
set_option linter.unusedSimpArgs false
set_option maxRecDepth 100000

set_option maxHeartbeats 8000000 in
theorem DiskNumbers_any (w : World) : Calls Tryz.prog 4 #[] w fun e w' => e = .returned (.bool true) ∧ Below w.heap.size w w' := by
  go_enter Tryz.func4, Tryz.ntmps4
  go_wp2_with fail
  go_loopw [1, 2] (fun v c wr => ∃ (k : Nat) (es : List DoE), k ≤ 256 ∧ c = .int .i64 k ∧ es.length ≤ 90 ∧ DoL w.heap.size es v wr ∧ Below w.heap.size w wr) (fun _ c _ => 256 - (intOf c).toNat)
  case atStart => exact ⟨0, [], by omega, rfl, Nat.zero_le _, ⟨⟨rfl, .inl ⟨rfl, rfl⟩⟩, fun e he => (by cases he), fun e he => (by cases he)⟩, Below.refl _ _⟩
  case round =>
    obtain ⟨k, es, hk, rfl, hel, hD, hb⟩ := hrel
    by_cases hlt : k < 256
    · have d1 : decide ((k : Int) < 256) = true := decide_eq_true (by omega)
      obtain ⟨A, c, rfl⟩ := owns_form hD.row
      obtain ⟨i0, hi0, hz0, hz1, hz2⟩ := info_parts infoDo
      have B1 : Bk (wr.alloc (.cells #[.int .u8 97, .int .u8 k] 5)) wr.heap.size 5 [.int .u8 97, .int .u8 k] := Bk.new wr _ _
      have C1 := conv_text [97, UInt8.ofNat k] (bk_rd [97, UInt8.ofNat k] B1 (byte_u8a k hlt) 2)
      simp only [List.length_cons, List.length_nil, Nat.zero_add, Nat.reduceAdd] at C1
      have n1 : Below wr.heap.size wr (wr.alloc (.cells #[.int .u8 97, .int .u8 k] 5)) := (Below.refl _ _).alloc (Nat.le_refl _) _
      have B2 : Bk ((wr.alloc (.cells #[.int .u8 97, .int .u8 k] 5)).alloc (.cells #[.int .u8 1] 5)) (wr.alloc (.cells #[.int .u8 97, .int .u8 k] 5)).heap.size 5 [.int .u8 1] := Bk.new (wr.alloc (.cells #[.int .u8 97, .int .u8 k] 5)) _ _
      rw [World.size_alloc] at B2
      have n2 := n1.alloc (Nat.le_of_lt (by rw [World.size_alloc]; exact Nat.lt_succ_self _)) (.cells #[.int .u8 1] 5)
      have B3 : Bk (((wr.alloc (.cells #[.int .u8 97, .int .u8 k] 5)).alloc (.cells #[.int .u8 1] 5)).alloc (.cells #[.int .u8 k] 5)) ((wr.alloc (.cells #[.int .u8 97, .int .u8 k] 5)).alloc (.cells #[.int .u8 1] 5)).heap.size 5 [.int .u8 k] := Bk.new ((wr.alloc (.cells #[.int .u8 97, .int .u8 k] 5)).alloc (.cells #[.int .u8 1] 5)) _ _
      rw [World.size_alloc, World.size_alloc] at B3
      have C3 := conv_text [UInt8.ofNat k] (bk_rd [UInt8.ofNat k] B3 (byte_u8 k hlt) 1)
      simp only [List.length_cons, List.length_nil, Nat.zero_add] at C3
      have n3 := n2.alloc (Nat.le_of_lt (by simp only [World.size_alloc]; omega)) (.cells #[.int .u8 k] 5)
      have z3 : (((wr.alloc (.cells #[.int .u8 97, .int .u8 k] 5)).alloc (.cells #[.int .u8 1] 5)).alloc (.cells #[.int .u8 k] 5)).heap.size = wr.heap.size + 1 + 1 + 1 := by simp only [World.size_alloc]
      have B2 := B2.below ((Below.refl _ _).alloc (Nat.le_refl _) (.cells #[.int .u8 k] 5)) B2.lt
      have hny := news_new (((wr.alloc (.cells #[.int .u8 97, .int .u8 k] 5)).alloc (.cells #[.int .u8 1] 5)).alloc (.cells #[.int .u8 k] 5)) (esC [eB [97, UInt8.ofNat k] (wr.heap.size + 1) [1], eN 5 [97, 98] [UInt8.ofNat k] 0]) 31
      have n4 := ((Below.refl _ (((wr.alloc (.cells #[.int .u8 97, .int .u8 k] 5)).alloc (.cells #[.int .u8 1] 5)).alloc (.cells #[.int .u8 k] 5))).alloc (Nat.le_refl _) (.cells (esC [eB [97, UInt8.ofNat k] (wr.heap.size + 1) [1], eN 5 [97, 98] [UInt8.ofNat k] 0]).toArray 31))
      rw [z3] at hny
      have R2 := (eB_rd (s := [97, UInt8.ofNat k]) (u := [1]) (B2.below n4 B2.lt) rfl)
      have n5 := n3.trans (n4.mono (by rw [z3]; omega))
      have hD5 := hD.below n5
      have hb5 := hb.trans (n5.mono hb.size)
      clear B1 B2 B3 n1 n2 n3 n4 n5 z3 hD
      by_cases hbig : 88 < es.length
      · have d2 : decide ((90 : Int) < ((es.length + 2 : Nat) : Int)) = true := decide_eq_true (by omega)
        have d3 : decide ((90 : Int) < (es.length : Int) + 2) = true := decide_eq_true (by omega)
        go_wp2_with (at_builtin; refine wpList_append_ownA rfl (.tmp 12) (.tmp 24) 22 rfl w.heap.size 31 i0 _ 5 72 Tryz.underlying22 hi0 hz0 hz1 hz2 rfl (by decide) _ es.length (esC es) rfl hD5.row (some ⟨wr.heap.size + 1 + 1 + 1, 0, none⟩) 2 2 (esC [eB [97, UInt8.ofNat k] (wr.heap.size + 1) [1], eN 5 [97, 98] [UInt8.ofNat k] 0]) rfl rfl (fun e => by cases e) (fun ad e => by injection e with e; subst e; exact hny) (esC_one _) (by unfold maxLen; omega) (by omega) hb5.size ?_; intro v7 w7 hr7 hgr7; obtain ⟨A7, c7, rfl⟩ := owns_form hr7)
        have hD7 := hD5.app (fs := [eB [97, UInt8.ofNat k] (wr.heap.size + 1) [1], eN 5 [97, 98] [UInt8.ofNat k] 0]) (by
          intro e he
          simp at he
          rcases he with rfl | rfl
          · exact eB_ok (s := [97, UInt8.ofNat k]) (u := [1]) (by simp) (by simp)
          · exact eN_ok (i64_s (by decide) (by decide)) (i64_s (by decide) (by decide)) (by simp) (by simp)) (by
          intro e he
          simp at he
          rcases he with rfl | rfl
          · exact R2
          · exact eN_rd _ _ _ _ _) hr7 hgr7
        have hb7 : Below w.heap.size w w7 := hb5.grown hgr7 hb5.size (fun g e => (owns_block hD5.row g e).1)
        obtain ⟨fs, hfs, hD7⟩ : ∃ fs : List DoE, fs.length = es.length + 2 ∧ DoL w.heap.size fs (.slice A7 (es.length + 2) c7) w7 := ⟨_, by simp, hD7⟩
        clear hny R2 hD5 hb5 hr7 hgr7 C1 C3 hb hi0 hz0 hz1 hz2 i0 B2
        have hcon := dol_lives hD7 1000 0
        clear hD7
        (with_reducible refine hcon.mono ?_)
        rintro _ w8 ⟨rfl, hb8⟩
        have hb9 := hb7.trans (hb8.mono hb7.size)
        clear hcon hb8 hb7
        go_wp2_with fail
        go_roundw
        case rel => exact ⟨k + 1, [], by omega, by go_num, Nat.zero_le _, ⟨⟨rfl, .inl ⟨rfl, rfl⟩⟩, fun e he => (by cases he), fun e he => (by cases he)⟩, hb9⟩
        case measure => simp [intOf]; omega
      · have d2 : decide ((90 : Int) < ((es.length + 2 : Nat) : Int)) = false := decide_eq_false (by omega)
        have d3 : decide ((90 : Int) < (es.length : Int) + 2) = false := decide_eq_false (by omega)
        go_wp2_with (at_builtin; refine wpList_append_ownA rfl (.tmp 12) (.tmp 24) 22 rfl w.heap.size 31 i0 _ 5 72 Tryz.underlying22 hi0 hz0 hz1 hz2 rfl (by decide) _ es.length (esC es) rfl hD5.row (some ⟨wr.heap.size + 1 + 1 + 1, 0, none⟩) 2 2 (esC [eB [97, UInt8.ofNat k] (wr.heap.size + 1) [1], eN 5 [97, 98] [UInt8.ofNat k] 0]) rfl rfl (fun e => by cases e) (fun ad e => by injection e with e; subst e; exact hny) (esC_one _) (by unfold maxLen; omega) (by omega) hb5.size ?_; intro v7 w7 hr7 hgr7; obtain ⟨A7, c7, rfl⟩ := owns_form hr7)
        have hD7 := hD5.app (fs := [eB [97, UInt8.ofNat k] (wr.heap.size + 1) [1], eN 5 [97, 98] [UInt8.ofNat k] 0]) (by
          intro e he
          simp at he
          rcases he with rfl | rfl
          · exact eB_ok (s := [97, UInt8.ofNat k]) (u := [1]) (by simp) (by simp)
          · exact eN_ok (i64_s (by decide) (by decide)) (i64_s (by decide) (by decide)) (by simp) (by simp)) (by
          intro e he
          simp at he
          rcases he with rfl | rfl
          · exact R2
          · exact eN_rd _ _ _ _ _) hr7 hgr7
        have hb7 : Below w.heap.size w w7 := hb5.grown hgr7 hb5.size (fun g e => (owns_block hD5.row g e).1)
        obtain ⟨fs, hfs, hD7⟩ : ∃ fs : List DoE, fs.length = es.length + 2 ∧ DoL w.heap.size fs (.slice A7 (es.length + 2) c7) w7 := ⟨_, by simp, hD7⟩
        clear hny R2 hD5 hb5 hr7 hgr7 C1 C3 hb hi0 hz0 hz1 hz2 i0 B2
        go_roundw
        case rel => exact ⟨k + 1, fs, by omega, by go_num, by omega, hD7, hb7⟩
        case measure => simp [intOf]; omega
    · have d1 : decide ((k : Int) < 256) = false := decide_eq_false (by omega)
      clear hD
      go_wp2_with fail
      have hN0 : Bk (wr.alloc (.cells #[.int .i64 (-9223372036854775808), .int .i64 (-1), .int .i64 0, .int .i64 1, .int .i64 2, .int .i64 3, .int .i64 4, .int .i64 5, .int .i64 9223372036854775807] 3)) wr.heap.size 3 nlV := Bk.new wr 3 nlV
      have hb0 : Below w.heap.size w (wr.alloc (.cells #[.int .i64 (-9223372036854775808), .int .i64 (-1), .int .i64 0, .int .i64 1, .int .i64 2, .int .i64 3, .int .i64 4, .int .i64 5, .int .i64 9223372036854775807] 3)) := hb.alloc hb.size _
      have hg0 : w.heap.size ≤ wr.heap.size := hb.size
      generalize (wr.alloc (.cells #[.int .i64 (-9223372036854775808), .int .i64 (-1), .int .i64 0, .int .i64 1, .int .i64 2, .int .i64 3, .int .i64 4, .int .i64 5, .int .i64 9223372036854775807] 3)) = wn at *
      generalize wr.heap.size = gN at *
      clear hb hel d1 hlt hk
      go_loopw [4] (fun i wx => ∃ k : Nat, k ≤ 9 ∧ i = .int .i64 k ∧ Bk wx gN 3 nlV ∧ Below w.heap.size w wx) (fun i _ => 9 - (intOf i).toNat)
      case atStart => exact ⟨0, by omega, rfl, hN0, hb0⟩
      case round =>
        clear hN0 hb0
        obtain ⟨i, hi, rfl, hN, hb⟩ := hrel
        by_cases hlt : i < 9
        · have d1 : decide ((i : Int) < 9) = true := decide_eq_true (by omega)
          obtain ⟨x, cx, hx⟩ := nl_at hN hlt
          have q1 : (0 : Int) ≤ (i : Int) := by omega
          have q2 : (i : Int) < 9 := by omega
          have HN := Lib.hid hN
          clear hN
          go_upto_region 14 with (fail)
          go_cut [1] (fun v wx => ∃ es, DoL wr.heap.size es v wx ∧ Below wr.heap.size wr wx)
          case first =>
            refine wp_region_held_drew (S := fun W' => W'.cell? ⟨gN, i, none⟩ = some (.int .i64 x)) (by kernel_rfl) (by simpa using cx) (fun hS => ?_)
            have hBc : ∀ W', Below wr.heap.size wr W' → W'.cell? ⟨gN, i, none⟩ = some (.int .i64 x) := fun W' h => (World.cell?_of_block (h.block gN HN.out.lt)).trans cx
            refine wpAnyH_norm 35 (Array.replicate 35 false) rfl rfl ?_
            refine wpAnyH_take (i := 2) (v := ?_) rfl (by kernel_rfl) (by kernel_rfl) (by kernel_rfl) (fun _ _ _ h => h) (Or.inl ⟨by rfl, ?_⟩) hS ?_
            rotate_left 1
            · intro w' hSw
              go_simp <;> with_reducible rfl
            try simp only [List.getElem_toArray, List.getElem_cons_zero, List.getElem_cons_succ, Act.put, List.setIfInBounds_toArray, List.set_cons_zero, List.set_cons_succ]
            refine wpAnyH_take (i := 5) (v := ?_) rfl (by kernel_rfl) (by kernel_rfl) (by kernel_rfl) (fun _ _ _ h => h) (Or.inl ⟨by rfl, ?_⟩) hS ?_
            rotate_left 1
            · intro w' hSw
              go_simp <;> with_reducible rfl
            try simp only [List.getElem_toArray, List.getElem_cons_zero, List.getElem_cons_succ, Act.put, List.setIfInBounds_toArray, List.set_cons_zero, List.set_cons_succ]
            refine wpAnyH_take (i := 6) (v := ?_) rfl (by kernel_rfl) (by kernel_rfl) (by kernel_rfl) (fun _ _ _ h => h) (Or.inl ⟨by rfl, ?_⟩) hS ?_
            rotate_left 1
            · intro w' hSw
              go_simp <;> with_reducible rfl
            try simp only [List.getElem_toArray, List.getElem_cons_zero, List.getElem_cons_succ, Act.put, List.setIfInBounds_toArray, List.set_cons_zero, List.set_cons_succ]
            refine wpAnyH_take (i := 7) (v := ?_) rfl (by kernel_rfl) (by kernel_rfl) (by kernel_rfl) (fun _ _ _ h => h) (Or.inl ⟨by rfl, ?_⟩) hS ?_
            rotate_left 1
            · intro w' hSw
              go_simp <;> with_reducible rfl
            try simp only [List.getElem_toArray, List.getElem_cons_zero, List.getElem_cons_succ, Act.put, List.setIfInBounds_toArray, List.set_cons_zero, List.set_cons_succ]
            refine wpAnyH_take (i := 8) (v := ?_) rfl (by kernel_rfl) (by kernel_rfl) (by kernel_rfl) (fun _ _ _ h => h) (Or.inl ⟨by rfl, ?_⟩) hS ?_
            rotate_left 1
            · intro w' hSw
              go_simp <;> with_reducible rfl
            try simp only [List.getElem_toArray, List.getElem_cons_zero, List.getElem_cons_succ, Act.put, List.setIfInBounds_toArray, List.set_cons_zero, List.set_cons_succ]
            refine wpAnyH_take (i := 9) (v := ?_) rfl (by kernel_rfl) (by kernel_rfl) (by kernel_rfl) (fun _ _ _ h => h) (Or.inl ⟨by rfl, ?_⟩) hS ?_
            rotate_left 1
            · intro w' hSw
              go_simp <;> with_reducible rfl
            try simp only [List.getElem_toArray, List.getElem_cons_zero, List.getElem_cons_succ, Act.put, List.setIfInBounds_toArray, List.set_cons_zero, List.set_cons_succ]
            refine wpAnyH_take (i := 12) (v := ?_) rfl (by kernel_rfl) (by kernel_rfl) (by kernel_rfl) (fun _ _ _ h => h) (Or.inl ⟨by rfl, ?_⟩) hS ?_
            rotate_left 1
            · intro w' hSw
              go_simp <;> with_reducible rfl
            try simp only [List.getElem_toArray, List.getElem_cons_zero, List.getElem_cons_succ, Act.put, List.setIfInBounds_toArray, List.set_cons_zero, List.set_cons_succ]
            refine wpAnyH_take (i := 13) (v := ?_) rfl (by kernel_rfl) (by kernel_rfl) (by kernel_rfl) (fun _ _ _ h => h) (Or.inl ⟨by rfl, ?_⟩) hS ?_
            rotate_left 1
            · intro w' hSw
              go_simp <;> with_reducible rfl
            try simp only [List.getElem_toArray, List.getElem_cons_zero, List.getElem_cons_succ, Act.put, List.setIfInBounds_toArray, List.set_cons_zero, List.set_cons_succ]
            refine wpAnyH_take (i := 14) (v := ?_) rfl (by kernel_rfl) (by kernel_rfl) (by kernel_rfl) (fun _ _ _ h => h) (Or.inl ⟨by rfl, ?_⟩) hS ?_
            rotate_left 1
            · intro w' hSw
              go_simp <;> with_reducible rfl
            try simp only [List.getElem_toArray, List.getElem_cons_zero, List.getElem_cons_succ, Act.put, List.setIfInBounds_toArray, List.set_cons_zero, List.set_cons_succ]
            refine wpAnyH_take (i := 15) (v := ?_) rfl (by kernel_rfl) (by kernel_rfl) (by kernel_rfl) (fun _ _ _ h => h) (Or.inl ⟨by rfl, ?_⟩) hS ?_
            rotate_left 1
            · intro w' hSw
              go_simp <;> with_reducible rfl
            try simp only [List.getElem_toArray, List.getElem_cons_zero, List.getElem_cons_succ, Act.put, List.setIfInBounds_toArray, List.set_cons_zero, List.set_cons_succ]
            refine wpAnyH_take (i := 16) (v := ?_) rfl (by kernel_rfl) (by kernel_rfl) (by kernel_rfl) (fun _ _ _ h => h) (Or.inl ⟨by rfl, ?_⟩) hS ?_
            rotate_left 1
            · intro w' hSw
              go_simp <;> with_reducible rfl
            try simp only [List.getElem_toArray, List.getElem_cons_zero, List.getElem_cons_succ, Act.put, List.setIfInBounds_toArray, List.set_cons_zero, List.set_cons_succ]
            refine wpAnyH_take (i := 19) (v := ?_) rfl (by kernel_rfl) (by kernel_rfl) (by kernel_rfl) (fun _ _ _ h => h) (Or.inl ⟨by rfl, ?_⟩) hS ?_
            rotate_left 1
            · intro w' hSw
              go_simp <;> with_reducible rfl
            try simp only [List.getElem_toArray, List.getElem_cons_zero, List.getElem_cons_succ, Act.put, List.setIfInBounds_toArray, List.set_cons_zero, List.set_cons_succ]
            refine wpAnyH_take (i := 20) (v := ?_) rfl (by kernel_rfl) (by kernel_rfl) (by kernel_rfl) (fun _ _ _ h => h) (Or.inl ⟨by rfl, ?_⟩) hS ?_
            rotate_left 1
            · intro w' hSw
              go_simp <;> with_reducible rfl
            try simp only [List.getElem_toArray, List.getElem_cons_zero, List.getElem_cons_succ, Act.put, List.setIfInBounds_toArray, List.set_cons_zero, List.set_cons_succ]
            refine wpAnyH_take (i := 21) (v := ?_) rfl (by kernel_rfl) (by kernel_rfl) (by kernel_rfl) (fun _ _ _ h => h) (Or.inl ⟨by rfl, ?_⟩) hS ?_
            rotate_left 1
            · intro w' hSw
              go_simp <;> with_reducible rfl
            try simp only [List.getElem_toArray, List.getElem_cons_zero, List.getElem_cons_succ, Act.put, List.setIfInBounds_toArray, List.set_cons_zero, List.set_cons_succ]
            refine wpAnyH_take (i := 22) (v := ?_) rfl (by kernel_rfl) (by kernel_rfl) (by kernel_rfl) (fun _ _ _ h => h) (Or.inl ⟨by rfl, ?_⟩) hS ?_
            rotate_left 1
            · intro w' hSw
              go_simp <;> with_reducible rfl
            try simp only [List.getElem_toArray, List.getElem_cons_zero, List.getElem_cons_succ, Act.put, List.setIfInBounds_toArray, List.set_cons_zero, List.set_cons_succ]
            refine wpAnyH_take (i := 23) (v := ?_) rfl (by kernel_rfl) (by kernel_rfl) (by kernel_rfl) (fun _ _ _ h => h) (Or.inl ⟨by rfl, ?_⟩) hS ?_
            rotate_left 1
            · intro w' hSw
              go_simp <;> with_reducible rfl
            try simp only [List.getElem_toArray, List.getElem_cons_zero, List.getElem_cons_succ, Act.put, List.setIfInBounds_toArray, List.set_cons_zero, List.set_cons_succ]
            refine wpAnyH_take (i := 24) (v := ?_) rfl (by kernel_rfl) (by kernel_rfl) (by kernel_rfl) (fun _ _ _ h => h) (Or.inl ⟨by rfl, ?_⟩) hS ?_
            rotate_left 1
            · intro w' hSw
              go_simp <;> with_reducible rfl
            try simp only [List.getElem_toArray, List.getElem_cons_zero, List.getElem_cons_succ, Act.put, List.setIfInBounds_toArray, List.set_cons_zero, List.set_cons_succ]
            refine wpAnyH_take (i := 25) (v := ?_) rfl (by kernel_rfl) (by kernel_rfl) (by kernel_rfl) (fun _ _ _ h => h) (Or.inl ⟨by rfl, ?_⟩) hS ?_
            rotate_left 1
            · intro w' hSw
              go_simp <;> with_reducible rfl
            try simp only [List.getElem_toArray, List.getElem_cons_zero, List.getElem_cons_succ, Act.put, List.setIfInBounds_toArray, List.set_cons_zero, List.set_cons_succ]
            refine wpAnyH_take (i := 26) (v := ?_) rfl (by kernel_rfl) (by kernel_rfl) (by kernel_rfl) (fun _ _ _ h => h) (Or.inl ⟨by rfl, ?_⟩) hS ?_
            rotate_left 1
            · intro w' hSw
              go_simp <;> with_reducible rfl
            try simp only [List.getElem_toArray, List.getElem_cons_zero, List.getElem_cons_succ, Act.put, List.setIfInBounds_toArray, List.set_cons_zero, List.set_cons_succ]
            refine wpAnyH_take (i := 27) (v := ?_) rfl (by kernel_rfl) (by kernel_rfl) (by kernel_rfl) (fun _ _ _ h => h) (Or.inl ⟨by rfl, ?_⟩) hS ?_
            rotate_left 1
            · intro w' hSw
              go_simp <;> with_reducible rfl
            try simp only [List.getElem_toArray, List.getElem_cons_zero, List.getElem_cons_succ, Act.put, List.setIfInBounds_toArray, List.set_cons_zero, List.set_cons_succ]
            refine wpAnyH_take (i := 28) (v := ?_) rfl (by kernel_rfl) (by kernel_rfl) (by kernel_rfl) (fun _ _ _ h => h) (Or.inl ⟨by rfl, ?_⟩) hS ?_
            rotate_left 1
            · intro w' hSw
              go_simp <;> with_reducible rfl
            try simp only [List.getElem_toArray, List.getElem_cons_zero, List.getElem_cons_succ, Act.put, List.setIfInBounds_toArray, List.set_cons_zero, List.set_cons_succ]
            refine wpAnyH_take (i := 29) (v := ?_) rfl (by kernel_rfl) (by kernel_rfl) (by kernel_rfl) (fun _ _ _ h => h) (Or.inl ⟨by rfl, ?_⟩) hS ?_
            rotate_left 1
            · intro w' hSw
              go_simp <;> with_reducible rfl
            try simp only [List.getElem_toArray, List.getElem_cons_zero, List.getElem_cons_succ, Act.put, List.setIfInBounds_toArray, List.set_cons_zero, List.set_cons_succ]
            refine wpAnyH_take (i := 30) (v := ?_) rfl (by kernel_rfl) (by kernel_rfl) (by kernel_rfl) (fun _ _ _ h => h) (Or.inl ⟨by rfl, ?_⟩) hS ?_
            rotate_left 1
            · intro w' hSw
              go_simp <;> with_reducible rfl
            try simp only [List.getElem_toArray, List.getElem_cons_zero, List.getElem_cons_succ, Act.put, List.setIfInBounds_toArray, List.set_cons_zero, List.set_cons_succ]
            refine wpAnyH_take (i := 31) (v := ?_) rfl (by kernel_rfl) (by kernel_rfl) (by kernel_rfl) (fun _ _ _ h => h) (Or.inl ⟨by rfl, ?_⟩) hS ?_
            rotate_left 1
            · intro w' hSw
              go_simp <;> with_reducible rfl
            try simp only [List.getElem_toArray, List.getElem_cons_zero, List.getElem_cons_succ, Act.put, List.setIfInBounds_toArray, List.set_cons_zero, List.set_cons_succ]
            refine wpAnyH_take (i := 32) (v := ?_) rfl (by kernel_rfl) (by kernel_rfl) (by kernel_rfl) (fun _ _ _ h => h) (Or.inl ⟨by rfl, ?_⟩) hS ?_
            rotate_left 1
            · intro w' hSw
              go_simp <;> with_reducible rfl
            try simp only [List.getElem_toArray, List.getElem_cons_zero, List.getElem_cons_succ, Act.put, List.setIfInBounds_toArray, List.set_cons_zero, List.set_cons_succ]
            refine wpAnyH_norm 10 #[false, false, true, false, false, true, true, true, true, true, false, false, true, true, true, true, true, false, false, true, true, true, true, true, true, true, true, true, true, true, true, true, true, false, false] (by kernel_rfl) (by kernel_rfl) ?_
            have hz : Below wr.heap.size wr wr.drew := (Below.refl _ _).drew
            generalize wr.drew = wz at *
            refine wpAnyH_ready (rs := [0, 3, 10, 17]) (by kernel_rfl) (by simp) (AllReadyH.cons rfl (fun K hK => ?_) (AllReadyH.cons rfl (fun K hK => ?_) (AllReadyH.cons rfl (fun K hK => ?_) (AllReadyH.cons rfl (fun K hK => ?_) AllReadyH.nil))))
            · go_simp
              have hn : Below wz.heap.size wz (wz.alloc (.cells #[.int .u8 1, .int .u8 2] 5)) := (Below.refl _ _).alloc (Nat.le_refl _) _
              have hz' := hz.trans (hn.mono hz.size)
              have B1 : Bk (wz.alloc (.cells #[.int .u8 1, .int .u8 2] 5)) wz.heap.size 5 [.int .u8 1, .int .u8 2] := Bk.new wz 5 [.int .u8 1, .int .u8 2]
              refine hK _ _ (hBc _ hz') (fun hS => ?_)
              clear hK K
              try have B2 := B2.below hn B2.lt
              try have B3 := B3.below hn B3.lt
              try have B4 := B4.below hn B4.lt
              have hz := hz'
              clear hz' hn
              generalize (wz.alloc (.cells #[.int .u8 1, .int .u8 2] 5)) = wz at *
              try simp only [List.getElem_toArray, List.getElem_cons_zero, List.getElem_cons_succ, Act.put, List.setIfInBounds_toArray, List.set_cons_zero, List.set_cons_succ]
              refine wpAnyH_take (i := 1) (v := ?_) rfl (by kernel_rfl) (by kernel_rfl) (by kernel_rfl) (fun _ _ _ h => h) (Or.inl ⟨by rfl, ?_⟩) hS ?_
              rotate_left 1
              · intro w' hSw
                go_simp <;> with_reducible rfl
              try simp only [List.getElem_toArray, List.getElem_cons_zero, List.getElem_cons_succ, Act.put, List.setIfInBounds_toArray, List.set_cons_zero, List.set_cons_succ]
              refine wpAnyH_ready (rs := [3, 10, 17]) (by kernel_rfl) (by simp) (AllReadyH.cons rfl (fun K hK => ?_) (AllReadyH.cons rfl (fun K hK => ?_) (AllReadyH.cons rfl (fun K hK => ?_) AllReadyH.nil)))
              · go_simp
                have hn : Below wz.heap.size wz (wz.alloc (.cells #[.int .u8 3, .int .u8 4] 5)) := (Below.refl _ _).alloc (Nat.le_refl _) _
                have hz' := hz.trans (hn.mono hz.size)
                have B2 : Bk (wz.alloc (.cells #[.int .u8 3, .int .u8 4] 5)) wz.heap.size 5 [.int .u8 3, .int .u8 4] := Bk.new wz 5 [.int .u8 3, .int .u8 4]
                refine hK _ _ (hBc _ hz') (fun hS => ?_)
                clear hK K
                try have B1 := B1.below hn B1.lt
                try have B3 := B3.below hn B3.lt
                try have B4 := B4.below hn B4.lt
                have hz := hz'
                clear hz' hn
                generalize (wz.alloc (.cells #[.int .u8 3, .int .u8 4] 5)) = wz at *
                try simp only [List.getElem_toArray, List.getElem_cons_zero, List.getElem_cons_succ, Act.put, List.setIfInBounds_toArray, List.set_cons_zero, List.set_cons_succ]
                refine wpAnyH_take (i := 4) (v := ?_) rfl (by kernel_rfl) (by kernel_rfl) (by kernel_rfl) (fun _ _ _ h => h) (Or.inl ⟨by rfl, ?_⟩) hS ?_
                rotate_left 1
                · intro w' hSw
                  go_simp <;> with_reducible rfl
                try simp only [List.getElem_toArray, List.getElem_cons_zero, List.getElem_cons_succ, Act.put, List.setIfInBounds_toArray, List.set_cons_zero, List.set_cons_succ]
                refine wpAnyH_ready (rs := [10, 17]) (by kernel_rfl) (by simp) (AllReadyH.cons rfl (fun K hK => ?_) (AllReadyH.cons rfl (fun K hK => ?_) AllReadyH.nil))
                · go_simp
                  have hn : Below wz.heap.size wz (wz.alloc (.cells #[.int .u8 5] 5)) := (Below.refl _ _).alloc (Nat.le_refl _) _
                  have hz' := hz.trans (hn.mono hz.size)
                  have B3 : Bk (wz.alloc (.cells #[.int .u8 5] 5)) wz.heap.size 5 [.int .u8 5] := Bk.new wz 5 [.int .u8 5]
                  refine hK _ _ (hBc _ hz') (fun hS => ?_)
                  clear hK K
                  try have B1 := B1.below hn B1.lt
                  try have B2 := B2.below hn B2.lt
                  try have B4 := B4.below hn B4.lt
                  have hz := hz'
                  clear hz' hn
                  generalize (wz.alloc (.cells #[.int .u8 5] 5)) = wz at *
                  try simp only [List.getElem_toArray, List.getElem_cons_zero, List.getElem_cons_succ, Act.put, List.setIfInBounds_toArray, List.set_cons_zero, List.set_cons_succ]
                  refine wpAnyH_take (i := 11) (v := ?_) rfl (by kernel_rfl) (by kernel_rfl) (by kernel_rfl) (fun _ _ _ h => h) (Or.inl ⟨by rfl, ?_⟩) hS ?_
                  rotate_left 1
                  · intro w' hSw
                    go_simp <;> with_reducible rfl
                  try simp only [List.getElem_toArray, List.getElem_cons_zero, List.getElem_cons_succ, Act.put, List.setIfInBounds_toArray, List.set_cons_zero, List.set_cons_succ]
                  refine wpAnyH_ready (rs := [17]) (by kernel_rfl) (by simp) (AllReadyH.cons rfl (fun K hK => ?_) AllReadyH.nil)
                  go_simp
                  have hn : Below wz.heap.size wz (wz.alloc (.cells #[.int .u8 6, .int .u8 7, .int .u8 8] 5)) := (Below.refl _ _).alloc (Nat.le_refl _) _
                  have hz' := hz.trans (hn.mono hz.size)
                  have B4 : Bk (wz.alloc (.cells #[.int .u8 6, .int .u8 7, .int .u8 8] 5)) wz.heap.size 5 [.int .u8 6, .int .u8 7, .int .u8 8] := Bk.new wz 5 [.int .u8 6, .int .u8 7, .int .u8 8]
                  refine hK _ _ (hBc _ hz') (fun hS => ?_)
                  clear hK K
                  try have B1 := B1.below hn B1.lt
                  try have B2 := B2.below hn B2.lt
                  try have B3 := B3.below hn B3.lt
                  have hz := hz'
                  clear hz' hn
                  generalize (wz.alloc (.cells #[.int .u8 6, .int .u8 7, .int .u8 8] 5)) = wz at *
                  try simp only [List.getElem_toArray, List.getElem_cons_zero, List.getElem_cons_succ, Act.put, List.setIfInBounds_toArray, List.set_cons_zero, List.set_cons_succ]
                  refine wpAnyH_take (i := 18) (v := ?_) rfl (by kernel_rfl) (by kernel_rfl) (by kernel_rfl) (fun _ _ _ h => h) (Or.inl ⟨by rfl, ?_⟩) hS ?_
                  rotate_left 1
                  · intro w' hSw
                    go_simp <;> with_reducible rfl
                  try simp only [List.getElem_toArray, List.getElem_cons_zero, List.getElem_cons_succ, Act.put, List.setIfInBounds_toArray, List.set_cons_zero, List.set_cons_succ]
                  refine wpAnyH_ready (rs := [33]) (by kernel_rfl) (by simp) (AllReadyH.cons rfl (fun K hK => ?_) AllReadyH.nil)
                  go_simp
                  refine hK _ _ (hBc _ (hz.trans (((Below.refl _ _).alloc (Nat.le_refl _) _).mono hz.size))) (fun hS => ?_)
                  clear hK K
                  try simp only [List.getElem_toArray, List.getElem_cons_zero, List.getElem_cons_succ, Act.put, List.setIfInBounds_toArray, List.set_cons_zero, List.set_cons_succ]
                  refine wpAnyH_ready (rs := [34]) (by kernel_rfl) (by simp) (AllReadyH.cons rfl (fun K hK => ?_) AllReadyH.nil)
                  go_simp
                  refine hK _ _ hS (fun hS => ?_)
                  clear hK K
                  try simp only [List.getElem_toArray, List.getElem_cons_zero, List.getElem_cons_succ, Act.put, List.setIfInBounds_toArray, List.set_cons_zero, List.set_cons_succ]
                  refine wpAnyH_done (by kernel_rfl) ?_ _
                  have hD := row_new hz.size hx (xm_i64 (x - 1)) B1 B2 B3 B4
                  go_wp2_with fail
                  go_meet
                  exact ⟨_, hD, hz.trans (((Below.refl _ _).alloc (Nat.le_refl _) _).mono hz.size)⟩
                · go_simp
                  have hn : Below wz.heap.size wz (wz.alloc (.cells #[.int .u8 6, .int .u8 7, .int .u8 8] 5)) := (Below.refl _ _).alloc (Nat.le_refl _) _
                  have hz' := hz.trans (hn.mono hz.size)
                  have B4 : Bk (wz.alloc (.cells #[.int .u8 6, .int .u8 7, .int .u8 8] 5)) wz.heap.size 5 [.int .u8 6, .int .u8 7, .int .u8 8] := Bk.new wz 5 [.int .u8 6, .int .u8 7, .int .u8 8]
                  refine hK _ _ (hBc _ hz') (fun hS => ?_)
                  clear hK K
                  try have B1 := B1.below hn B1.lt
                  try have B2 := B2.below hn B2.lt
                  try have B3 := B3.below hn B3.lt
                  have hz := hz'
                  clear hz' hn
                  generalize (wz.alloc (.cells #[.int .u8 6, .int .u8 7, .int .u8 8] 5)) = wz at *
                  try simp only [List.getElem_toArray, List.getElem_cons_zero, List.getElem_cons_succ, Act.put, List.setIfInBounds_toArray, List.set_cons_zero, List.set_cons_succ]
                  refine wpAnyH_take (i := 18) (v := ?_) rfl (by kernel_rfl) (by kernel_rfl) (by kernel_rfl) (fun _ _ _ h => h) (Or.inl ⟨by rfl, ?_⟩) hS ?_
                  rotate_left 1
                  · intro w' hSw
                    go_simp <;> with_reducible rfl
                  try simp only [List.getElem_toArray, List.getElem_cons_zero, List.getElem_cons_succ, Act.put, List.setIfInBounds_toArray, List.set_cons_zero, List.set_cons_succ]
                  refine wpAnyH_ready (rs := [10]) (by kernel_rfl) (by simp) (AllReadyH.cons rfl (fun K hK => ?_) AllReadyH.nil)
                  go_simp
                  have hn : Below wz.heap.size wz (wz.alloc (.cells #[.int .u8 5] 5)) := (Below.refl _ _).alloc (Nat.le_refl _) _
                  have hz' := hz.trans (hn.mono hz.size)
                  have B3 : Bk (wz.alloc (.cells #[.int .u8 5] 5)) wz.heap.size 5 [.int .u8 5] := Bk.new wz 5 [.int .u8 5]
                  refine hK _ _ (hBc _ hz') (fun hS => ?_)
                  clear hK K
                  try have B1 := B1.below hn B1.lt
                  try have B2 := B2.below hn B2.lt
                  try have B4 := B4.below hn B4.lt
                  have hz := hz'
                  clear hz' hn
                  generalize (wz.alloc (.cells #[.int .u8 5] 5)) = wz at *
                  try simp only [List.getElem_toArray, List.getElem_cons_zero, List.getElem_cons_succ, Act.put, List.setIfInBounds_toArray, List.set_cons_zero, List.set_cons_succ]
                  refine wpAnyH_take (i := 11) (v := ?_) rfl (by kernel_rfl) (by kernel_rfl) (by kernel_rfl) (fun _ _ _ h => h) (Or.inl ⟨by rfl, ?_⟩) hS ?_
                  rotate_left 1
                  · intro w' hSw
                    go_simp <;> with_reducible rfl
                  try simp only [List.getElem_toArray, List.getElem_cons_zero, List.getElem_cons_succ, Act.put, List.setIfInBounds_toArray, List.set_cons_zero, List.set_cons_succ]
                  refine wpAnyH_ready (rs := [33]) (by kernel_rfl) (by simp) (AllReadyH.cons rfl (fun K hK => ?_) AllReadyH.nil)
                  go_simp
                  refine hK _ _ (hBc _ (hz.trans (((Below.refl _ _).alloc (Nat.le_refl _) _).mono hz.size))) (fun hS => ?_)
                  clear hK K
                  try simp only [List.getElem_toArray, List.getElem_cons_zero, List.getElem_cons_succ, Act.put, List.setIfInBounds_toArray, List.set_cons_zero, List.set_cons_succ]
                  refine wpAnyH_ready (rs := [34]) (by kernel_rfl) (by simp) (AllReadyH.cons rfl (fun K hK => ?_) AllReadyH.nil)
                  go_simp
                  refine hK _ _ hS (fun hS => ?_)
                  clear hK K
                  try simp only [List.getElem_toArray, List.getElem_cons_zero, List.getElem_cons_succ, Act.put, List.setIfInBounds_toArray, List.set_cons_zero, List.set_cons_succ]
                  refine wpAnyH_done (by kernel_rfl) ?_ _
                  have hD := row_new hz.size hx (xm_i64 (x - 1)) B1 B2 B3 B4
                  go_wp2_with fail
                  go_meet
                  exact ⟨_, hD, hz.trans (((Below.refl _ _).alloc (Nat.le_refl _) _).mono hz.size)⟩
              · go_simp
                have hn : Below wz.heap.size wz (wz.alloc (.cells #[.int .u8 5] 5)) := (Below.refl _ _).alloc (Nat.le_refl _) _
                have hz' := hz.trans (hn.mono hz.size)
                have B3 : Bk (wz.alloc (.cells #[.int .u8 5] 5)) wz.heap.size 5 [.int .u8 5] := Bk.new wz 5 [.int .u8 5]
                refine hK _ _ (hBc _ hz') (fun hS => ?_)
                clear hK K
                try have B1 := B1.below hn B1.lt
                try have B2 := B2.below hn B2.lt
                try have B4 := B4.below hn B4.lt
                have hz := hz'
                clear hz' hn
                generalize (wz.alloc (.cells #[.int .u8 5] 5)) = wz at *
                try simp only [List.getElem_toArray, List.getElem_cons_zero, List.getElem_cons_succ, Act.put, List.setIfInBounds_toArray, List.set_cons_zero, List.set_cons_succ]
                refine wpAnyH_take (i := 11) (v := ?_) rfl (by kernel_rfl) (by kernel_rfl) (by kernel_rfl) (fun _ _ _ h => h) (Or.inl ⟨by rfl, ?_⟩) hS ?_
                rotate_left 1
                · intro w' hSw
                  go_simp <;> with_reducible rfl
                try simp only [List.getElem_toArray, List.getElem_cons_zero, List.getElem_cons_succ, Act.put, List.setIfInBounds_toArray, List.set_cons_zero, List.set_cons_succ]
                refine wpAnyH_ready (rs := [3, 17]) (by kernel_rfl) (by simp) (AllReadyH.cons rfl (fun K hK => ?_) (AllReadyH.cons rfl (fun K hK => ?_) AllReadyH.nil))
                · go_simp
                  have hn : Below wz.heap.size wz (wz.alloc (.cells #[.int .u8 3, .int .u8 4] 5)) := (Below.refl _ _).alloc (Nat.le_refl _) _
                  have hz' := hz.trans (hn.mono hz.size)
                  have B2 : Bk (wz.alloc (.cells #[.int .u8 3, .int .u8 4] 5)) wz.heap.size 5 [.int .u8 3, .int .u8 4] := Bk.new wz 5 [.int .u8 3, .int .u8 4]
                  refine hK _ _ (hBc _ hz') (fun hS => ?_)
                  clear hK K
                  try have B1 := B1.below hn B1.lt
                  try have B3 := B3.below hn B3.lt
                  try have B4 := B4.below hn B4.lt
                  have hz := hz'
                  clear hz' hn
                  generalize (wz.alloc (.cells #[.int .u8 3, .int .u8 4] 5)) = wz at *
                  try simp only [List.getElem_toArray, List.getElem_cons_zero, List.getElem_cons_succ, Act.put, List.setIfInBounds_toArray, List.set_cons_zero, List.set_cons_succ]
                  refine wpAnyH_take (i := 4) (v := ?_) rfl (by kernel_rfl) (by kernel_rfl) (by kernel_rfl) (fun _ _ _ h => h) (Or.inl ⟨by rfl, ?_⟩) hS ?_
                  rotate_left 1
                  · intro w' hSw
                    go_simp <;> with_reducible rfl
                  try simp only [List.getElem_toArray, List.getElem_cons_zero, List.getElem_cons_succ, Act.put, List.setIfInBounds_toArray, List.set_cons_zero, List.set_cons_succ]
                  refine wpAnyH_ready (rs := [17]) (by kernel_rfl) (by simp) (AllReadyH.cons rfl (fun K hK => ?_) AllReadyH.nil)
                  go_simp
                  have hn : Below wz.heap.size wz (wz.alloc (.cells #[.int .u8 6, .int .u8 7, .int .u8 8] 5)) := (Below.refl _ _).alloc (Nat.le_refl _) _
                  have hz' := hz.trans (hn.mono hz.size)
                  have B4 : Bk (wz.alloc (.cells #[.int .u8 6, .int .u8 7, .int .u8 8] 5)) wz.heap.size 5 [.int .u8 6, .int .u8 7, .int .u8 8] := Bk.new wz 5 [.int .u8 6, .int .u8 7, .int .u8 8]
                  refine hK _ _ (hBc _ hz') (fun hS => ?_)
                  clear hK K
                  try have B1 := B1.below hn B1.lt
                  try have B2 := B2.below hn B2.lt
                  try have B3 := B3.below hn B3.lt
                  have hz := hz'
                  clear hz' hn
                  generalize (wz.alloc (.cells #[.int .u8 6, .int .u8 7, .int .u8 8] 5)) = wz at *
                  try simp only [List.getElem_toArray, List.getElem_cons_zero, List.getElem_cons_succ, Act.put, List.setIfInBounds_toArray, List.set_cons_zero, List.set_cons_succ]
                  refine wpAnyH_take (i := 18) (v := ?_) rfl (by kernel_rfl) (by kernel_rfl) (by kernel_rfl) (fun _ _ _ h => h) (Or.inl ⟨by rfl, ?_⟩) hS ?_
                  rotate_left 1
                  · intro w' hSw
                    go_simp <;> with_reducible rfl
                  try simp only [List.getElem_toArray, List.getElem_cons_zero, List.getElem_cons_succ, Act.put, List.setIfInBounds_toArray, List.set_cons_zero, List.set_cons_succ]
                  refine wpAnyH_ready (rs := [33]) (by kernel_rfl) (by simp) (AllReadyH.cons rfl (fun K hK => ?_) AllReadyH.nil)
                  go_simp
                  refine hK _ _ (hBc _ (hz.trans (((Below.refl _ _).alloc (Nat.le_refl _) _).mono hz.size))) (fun hS => ?_)
                  clear hK K
                  try simp only [List.getElem_toArray, List.getElem_cons_zero, List.getElem_cons_succ, Act.put, List.setIfInBounds_toArray, List.set_cons_zero, List.set_cons_succ]
                  refine wpAnyH_ready (rs := [34]) (by kernel_rfl) (by simp) (AllReadyH.cons rfl (fun K hK => ?_) AllReadyH.nil)
                  go_simp
                  refine hK _ _ hS (fun hS => ?_)
                  clear hK K
                  try simp only [List.getElem_toArray, List.getElem_cons_zero, List.getElem_cons_succ, Act.put, List.setIfInBounds_toArray, List.set_cons_zero, List.set_cons_succ]
                  refine wpAnyH_done (by kernel_rfl) ?_ _
                  have hD := row_new hz.size hx (xm_i64 (x - 1)) B1 B2 B3 B4
                  go_wp2_with fail
                  go_meet
                  exact ⟨_, hD, hz.trans (((Below.refl _ _).alloc (Nat.le_refl _) _).mono hz.size)⟩
                · go_simp
                  have hn : Below wz.heap.size wz (wz.alloc (.cells #[.int .u8 6, .int .u8 7, .int .u8 8] 5)) := (Below.refl _ _).alloc (Nat.le_refl _) _
                  have hz' := hz.trans (hn.mono hz.size)
                  have B4 : Bk (wz.alloc (.cells #[.int .u8 6, .int .u8 7, .int .u8 8] 5)) wz.heap.size 5 [.int .u8 6, .int .u8 7, .int .u8 8] := Bk.new wz 5 [.int .u8 6, .int .u8 7, .int .u8 8]
                  refine hK _ _ (hBc _ hz') (fun hS => ?_)
                  clear hK K
                  try have B1 := B1.below hn B1.lt
                  try have B2 := B2.below hn B2.lt
                  try have B3 := B3.below hn B3.lt
                  have hz := hz'
                  clear hz' hn
                  generalize (wz.alloc (.cells #[.int .u8 6, .int .u8 7, .int .u8 8] 5)) = wz at *
                  try simp only [List.getElem_toArray, List.getElem_cons_zero, List.getElem_cons_succ, Act.put, List.setIfInBounds_toArray, List.set_cons_zero, List.set_cons_succ]
                  refine wpAnyH_take (i := 18) (v := ?_) rfl (by kernel_rfl) (by kernel_rfl) (by kernel_rfl) (fun _ _ _ h => h) (Or.inl ⟨by rfl, ?_⟩) hS ?_
                  rotate_left 1
                  · intro w' hSw
                    go_simp <;> with_reducible rfl
                  try simp only [List.getElem_toArray, List.getElem_cons_zero, List.getElem_cons_succ, Act.put, List.setIfInBounds_toArray, List.set_cons_zero, List.set_cons_succ]
                  refine wpAnyH_ready (rs := [3]) (by kernel_rfl) (by simp) (AllReadyH.cons rfl (fun K hK => ?_) AllReadyH.nil)
                  go_simp
                  have hn : Below wz.heap.size wz (wz.alloc (.cells #[.int .u8 3, .int .u8 4] 5)) := (Below.refl _ _).alloc (Nat.le_refl _) _
                  have hz' := hz.trans (hn.mono hz.size)
                  have B2 : Bk (wz.alloc (.cells #[.int .u8 3, .int .u8 4] 5)) wz.heap.size 5 [.int .u8 3, .int .u8 4] := Bk.new wz 5 [.int .u8 3, .int .u8 4]
                  refine hK _ _ (hBc _ hz') (fun hS => ?_)
                  clear hK K
                  try have B1 := B1.below hn B1.lt
                  try have B3 := B3.below hn B3.lt
                  try have B4 := B4.below hn B4.lt
                  have hz := hz'
                  clear hz' hn
                  generalize (wz.alloc (.cells #[.int .u8 3, .int .u8 4] 5)) = wz at *
                  try simp only [List.getElem_toArray, List.getElem_cons_zero, List.getElem_cons_succ, Act.put, List.setIfInBounds_toArray, List.set_cons_zero, List.set_cons_succ]
                  refine wpAnyH_take (i := 4) (v := ?_) rfl (by kernel_rfl) (by kernel_rfl) (by kernel_rfl) (fun _ _ _ h => h) (Or.inl ⟨by rfl, ?_⟩) hS ?_
                  rotate_left 1
                  · intro w' hSw
                    go_simp <;> with_reducible rfl
                  try simp only [List.getElem_toArray, List.getElem_cons_zero, List.getElem_cons_succ, Act.put, List.setIfInBounds_toArray, List.set_cons_zero, List.set_cons_succ]
                  refine wpAnyH_ready (rs := [33]) (by kernel_rfl) (by simp) (AllReadyH.cons rfl (fun K hK => ?_) AllReadyH.nil)
                  go_simp
                  refine hK _ _ (hBc _ (hz.trans (((Below.refl _ _).alloc (Nat.le_refl _) _).mono hz.size))) (fun hS => ?_)
                  clear hK K
                  try simp only [List.getElem_toArray, List.getElem_cons_zero, List.getElem_cons_succ, Act.put, List.setIfInBounds_toArray, List.set_cons_zero, List.set_cons_succ]
                  refine wpAnyH_ready (rs := [34]) (by kernel_rfl) (by simp) (AllReadyH.cons rfl (fun K hK => ?_) AllReadyH.nil)
                  go_simp
                  refine hK _ _ hS (fun hS => ?_)
                  clear hK K
                  try simp only [List.getElem_toArray, List.getElem_cons_zero, List.getElem_cons_succ, Act.put, List.setIfInBounds_toArray, List.set_cons_zero, List.set_cons_succ]
                  refine wpAnyH_done (by kernel_rfl) ?_ _
                  have hD := row_new hz.size hx (xm_i64 (x - 1)) B1 B2 B3 B4
                  go_wp2_with fail
                  go_meet
                  exact ⟨_, hD, hz.trans (((Below.refl _ _).alloc (Nat.le_refl _) _).mono hz.size)⟩
              · go_simp
                have hn : Below wz.heap.size wz (wz.alloc (.cells #[.int .u8 6, .int .u8 7, .int .u8 8] 5)) := (Below.refl _ _).alloc (Nat.le_refl _) _
                have hz' := hz.trans (hn.mono hz.size)
                have B4 : Bk (wz.alloc (.cells #[.int .u8 6, .int .u8 7, .int .u8 8] 5)) wz.heap.size 5 [.int .u8 6, .int .u8 7, .int .u8 8] := Bk.new wz 5 [.int .u8 6, .int .u8 7, .int .u8 8]
                refine hK _ _ (hBc _ hz') (fun hS => ?_)
                clear hK K
                try have B1 := B1.below hn B1.lt
                try have B2 := B2.below hn B2.lt
                try have B3 := B3.below hn B3.lt
                have hz := hz'
                clear hz' hn
                generalize (wz.alloc (.cells #[.int .u8 6, .int .u8 7, .int .u8 8] 5)) = wz at *
                try simp only [List.getElem_toArray, List.getElem_cons_zero, List.getElem_cons_succ, Act.put, List.setIfInBounds_toArray, List.set_cons_zero, List.set_cons_succ]
                refine wpAnyH_take (i := 18) (v := ?_) rfl (by kernel_rfl) (by kernel_rfl) (by kernel_rfl) (fun _ _ _ h => h) (Or.inl ⟨by rfl, ?_⟩) hS ?_
                rotate_left 1
                · intro w' hSw
                  go_simp <;> with_reducible rfl
                try simp only [List.getElem_toArray, List.getElem_cons_zero, List.getElem_cons_succ, Act.put, List.setIfInBounds_toArray, List.set_cons_zero, List.set_cons_succ]
                refine wpAnyH_ready (rs := [3, 10]) (by kernel_rfl) (by simp) (AllReadyH.cons rfl (fun K hK => ?_) (AllReadyH.cons rfl (fun K hK => ?_) AllReadyH.nil))
                · go_simp
                  have hn : Below wz.heap.size wz (wz.alloc (.cells #[.int .u8 3, .int .u8 4] 5)) := (Below.refl _ _).alloc (Nat.le_refl _) _
                  have hz' := hz.trans (hn.mono hz.size)
                  have B2 : Bk (wz.alloc (.cells #[.int .u8 3, .int .u8 4] 5)) wz.heap.size 5 [.int .u8 3, .int .u8 4] := Bk.new wz 5 [.int .u8 3, .int .u8 4]
                  refine hK _ _ (hBc _ hz') (fun hS => ?_)
                  clear hK K
                  try have B1 := B1.below hn B1.lt
                  try have B3 := B3.below hn B3.lt
                  try have B4 := B4.below hn B4.lt
                  have hz := hz'
                  clear hz' hn
                  generalize (wz.alloc (.cells #[.int .u8 3, .int .u8 4] 5)) = wz at *
                  try simp only [List.getElem_toArray, List.getElem_cons_zero, List.getElem_cons_succ, Act.put, List.setIfInBounds_toArray, List.set_cons_zero, List.set_cons_succ]
                  refine wpAnyH_take (i := 4) (v := ?_) rfl (by kernel_rfl) (by kernel_rfl) (by kernel_rfl) (fun _ _ _ h => h) (Or.inl ⟨by rfl, ?_⟩) hS ?_
                  rotate_left 1
                  · intro w' hSw
                    go_simp <;> with_reducible rfl
                  try simp only [List.getElem_toArray, List.getElem_cons_zero, List.getElem_cons_succ, Act.put, List.setIfInBounds_toArray, List.set_cons_zero, List.set_cons_succ]
                  refine wpAnyH_ready (rs := [10]) (by kernel_rfl) (by simp) (AllReadyH.cons rfl (fun K hK => ?_) AllReadyH.nil)
                  go_simp
                  have hn : Below wz.heap.size wz (wz.alloc (.cells #[.int .u8 5] 5)) := (Below.refl _ _).alloc (Nat.le_refl _) _
                  have hz' := hz.trans (hn.mono hz.size)
                  have B3 : Bk (wz.alloc (.cells #[.int .u8 5] 5)) wz.heap.size 5 [.int .u8 5] := Bk.new wz 5 [.int .u8 5]
                  refine hK _ _ (hBc _ hz') (fun hS => ?_)
                  clear hK K
                  try have B1 := B1.below hn B1.lt
                  try have B2 := B2.below hn B2.lt
                  try have B4 := B4.below hn B4.lt
                  have hz := hz'
                  clear hz' hn
                  generalize (wz.alloc (.cells #[.int .u8 5] 5)) = wz at *
                  try simp only [List.getElem_toArray, List.getElem_cons_zero, List.getElem_cons_succ, Act.put, List.setIfInBounds_toArray, List.set_cons_zero, List.set_cons_succ]
                  refine wpAnyH_take (i := 11) (v := ?_) rfl (by kernel_rfl) (by kernel_rfl) (by kernel_rfl) (fun _ _ _ h => h) (Or.inl ⟨by rfl, ?_⟩) hS ?_
                  rotate_left 1
                  · intro w' hSw
                    go_simp <;> with_reducible rfl
                  try simp only [List.getElem_toArray, List.getElem_cons_zero, List.getElem_cons_succ, Act.put, List.setIfInBounds_toArray, List.set_cons_zero, List.set_cons_succ]
                  refine wpAnyH_ready (rs := [33]) (by kernel_rfl) (by simp) (AllReadyH.cons rfl (fun K hK => ?_) AllReadyH.nil)
                  go_simp
                  refine hK _ _ (hBc _ (hz.trans (((Below.refl _ _).alloc (Nat.le_refl _) _).mono hz.size))) (fun hS => ?_)
                  clear hK K
                  try simp only [List.getElem_toArray, List.getElem_cons_zero, List.getElem_cons_succ, Act.put, List.setIfInBounds_toArray, List.set_cons_zero, List.set_cons_succ]
                  refine wpAnyH_ready (rs := [34]) (by kernel_rfl) (by simp) (AllReadyH.cons rfl (fun K hK => ?_) AllReadyH.nil)
                  go_simp
                  refine hK _ _ hS (fun hS => ?_)
                  clear hK K
                  try simp only [List.getElem_toArray, List.getElem_cons_zero, List.getElem_cons_succ, Act.put, List.setIfInBounds_toArray, List.set_cons_zero, List.set_cons_succ]
                  refine wpAnyH_done (by kernel_rfl) ?_ _
                  have hD := row_new hz.size hx (xm_i64 (x - 1)) B1 B2 B3 B4
                  go_wp2_with fail
                  go_meet
                  exact ⟨_, hD, hz.trans (((Below.refl _ _).alloc (Nat.le_refl _) _).mono hz.size)⟩
                · go_simp
                  have hn : Below wz.heap.size wz (wz.alloc (.cells #[.int .u8 5] 5)) := (Below.refl _ _).alloc (Nat.le_refl _) _
                  have hz' := hz.trans (hn.mono hz.size)
                  have B3 : Bk (wz.alloc (.cells #[.int .u8 5] 5)) wz.heap.size 5 [.int .u8 5] := Bk.new wz 5 [.int .u8 5]
                  refine hK _ _ (hBc _ hz') (fun hS => ?_)
                  clear hK K
                  try have B1 := B1.below hn B1.lt
                  try have B2 := B2.below hn B2.lt
                  try have B4 := B4.below hn B4.lt
                  have hz := hz'
                  clear hz' hn
                  generalize (wz.alloc (.cells #[.int .u8 5] 5)) = wz at *
                  try simp only [List.getElem_toArray, List.getElem_cons_zero, List.getElem_cons_succ, Act.put, List.setIfInBounds_toArray, List.set_cons_zero, List.set_cons_succ]
                  refine wpAnyH_take (i := 11) (v := ?_) rfl (by kernel_rfl) (by kernel_rfl) (by kernel_rfl) (fun _ _ _ h => h) (Or.inl ⟨by rfl, ?_⟩) hS ?_
                  rotate_left 1
                  · intro w' hSw
                    go_simp <;> with_reducible rfl
                  try simp only [List.getElem_toArray, List.getElem_cons_zero, List.getElem_cons_succ, Act.put, List.setIfInBounds_toArray, List.set_cons_zero, List.set_cons_succ]
                  refine wpAnyH_ready (rs := [3]) (by kernel_rfl) (by simp) (AllReadyH.cons rfl (fun K hK => ?_) AllReadyH.nil)
                  go_simp
                  have hn : Below wz.heap.size wz (wz.alloc (.cells #[.int .u8 3, .int .u8 4] 5)) := (Below.refl _ _).alloc (Nat.le_refl _) _
                  have hz' := hz.trans (hn.mono hz.size)
                  have B2 : Bk (wz.alloc (.cells #[.int .u8 3, .int .u8 4] 5)) wz.heap.size 5 [.int .u8 3, .int .u8 4] := Bk.new wz 5 [.int .u8 3, .int .u8 4]
                  refine hK _ _ (hBc _ hz') (fun hS => ?_)
                  clear hK K
                  try have B1 := B1.below hn B1.lt
                  try have B3 := B3.below hn B3.lt
                  try have B4 := B4.below hn B4.lt
                  have hz := hz'
                  clear hz' hn
                  generalize (wz.alloc (.cells #[.int .u8 3, .int .u8 4] 5)) = wz at *
                  try simp only [List.getElem_toArray, List.getElem_cons_zero, List.getElem_cons_succ, Act.put, List.setIfInBounds_toArray, List.set_cons_zero, List.set_cons_succ]
                  refine wpAnyH_take (i := 4) (v := ?_) rfl (by kernel_rfl) (by kernel_rfl) (by kernel_rfl) (fun _ _ _ h => h) (Or.inl ⟨by rfl, ?_⟩) hS ?_
                  rotate_left 1
                  · intro w' hSw
                    go_simp <;> with_reducible rfl
                  try simp only [List.getElem_toArray, List.getElem_cons_zero, List.getElem_cons_succ, Act.put, List.setIfInBounds_toArray, List.set_cons_zero, List.set_cons_succ]
                  refine wpAnyH_ready (rs := [33]) (by kernel_rfl) (by simp) (AllReadyH.cons rfl (fun K hK => ?_) AllReadyH.nil)
                  go_simp
                  refine hK _ _ (hBc _ (hz.trans (((Below.refl _ _).alloc (Nat.le_refl _) _).mono hz.size))) (fun hS => ?_)
                  clear hK K
                  try simp only [List.getElem_toArray, List.getElem_cons_zero, List.getElem_cons_succ, Act.put, List.setIfInBounds_toArray, List.set_cons_zero, List.set_cons_succ]
                  refine wpAnyH_ready (rs := [34]) (by kernel_rfl) (by simp) (AllReadyH.cons rfl (fun K hK => ?_) AllReadyH.nil)
                  go_simp
                  refine hK _ _ hS (fun hS => ?_)
                  clear hK K
                  try simp only [List.getElem_toArray, List.getElem_cons_zero, List.getElem_cons_succ, Act.put, List.setIfInBounds_toArray, List.set_cons_zero, List.set_cons_succ]
                  refine wpAnyH_done (by kernel_rfl) ?_ _
                  have hD := row_new hz.size hx (xm_i64 (x - 1)) B1 B2 B3 B4
                  go_wp2_with fail
                  go_meet
                  exact ⟨_, hD, hz.trans (((Below.refl _ _).alloc (Nat.le_refl _) _).mono hz.size)⟩
            · go_simp
              have hn : Below wz.heap.size wz (wz.alloc (.cells #[.int .u8 3, .int .u8 4] 5)) := (Below.refl _ _).alloc (Nat.le_refl _) _
              have hz' := hz.trans (hn.mono hz.size)
              have B2 : Bk (wz.alloc (.cells #[.int .u8 3, .int .u8 4] 5)) wz.heap.size 5 [.int .u8 3, .int .u8 4] := Bk.new wz 5 [.int .u8 3, .int .u8 4]
              refine hK _ _ (hBc _ hz') (fun hS => ?_)
              clear hK K
              try have B1 := B1.below hn B1.lt
              try have B3 := B3.below hn B3.lt
              try have B4 := B4.below hn B4.lt
              have hz := hz'
              clear hz' hn
              generalize (wz.alloc (.cells #[.int .u8 3, .int .u8 4] 5)) = wz at *
              try simp only [List.getElem_toArray, List.getElem_cons_zero, List.getElem_cons_succ, Act.put, List.setIfInBounds_toArray, List.set_cons_zero, List.set_cons_succ]
              refine wpAnyH_take (i := 4) (v := ?_) rfl (by kernel_rfl) (by kernel_rfl) (by kernel_rfl) (fun _ _ _ h => h) (Or.inl ⟨by rfl, ?_⟩) hS ?_
              rotate_left 1
              · intro w' hSw
                go_simp <;> with_reducible rfl
              try simp only [List.getElem_toArray, List.getElem_cons_zero, List.getElem_cons_succ, Act.put, List.setIfInBounds_toArray, List.set_cons_zero, List.set_cons_succ]
              refine wpAnyH_ready (rs := [0, 10, 17]) (by kernel_rfl) (by simp) (AllReadyH.cons rfl (fun K hK => ?_) (AllReadyH.cons rfl (fun K hK => ?_) (AllReadyH.cons rfl (fun K hK => ?_) AllReadyH.nil)))
              · go_simp
                have hn : Below wz.heap.size wz (wz.alloc (.cells #[.int .u8 1, .int .u8 2] 5)) := (Below.refl _ _).alloc (Nat.le_refl _) _
                have hz' := hz.trans (hn.mono hz.size)
                have B1 : Bk (wz.alloc (.cells #[.int .u8 1, .int .u8 2] 5)) wz.heap.size 5 [.int .u8 1, .int .u8 2] := Bk.new wz 5 [.int .u8 1, .int .u8 2]
                refine hK _ _ (hBc _ hz') (fun hS => ?_)
                clear hK K
                try have B2 := B2.below hn B2.lt
                try have B3 := B3.below hn B3.lt
                try have B4 := B4.below hn B4.lt
                have hz := hz'
                clear hz' hn
                generalize (wz.alloc (.cells #[.int .u8 1, .int .u8 2] 5)) = wz at *
                try simp only [List.getElem_toArray, List.getElem_cons_zero, List.getElem_cons_succ, Act.put, List.setIfInBounds_toArray, List.set_cons_zero, List.set_cons_succ]
                refine wpAnyH_take (i := 1) (v := ?_) rfl (by kernel_rfl) (by kernel_rfl) (by kernel_rfl) (fun _ _ _ h => h) (Or.inl ⟨by rfl, ?_⟩) hS ?_
                rotate_left 1
                · intro w' hSw
                  go_simp <;> with_reducible rfl
                try simp only [List.getElem_toArray, List.getElem_cons_zero, List.getElem_cons_succ, Act.put, List.setIfInBounds_toArray, List.set_cons_zero, List.set_cons_succ]
                refine wpAnyH_ready (rs := [10, 17]) (by kernel_rfl) (by simp) (AllReadyH.cons rfl (fun K hK => ?_) (AllReadyH.cons rfl (fun K hK => ?_) AllReadyH.nil))
                · go_simp
                  have hn : Below wz.heap.size wz (wz.alloc (.cells #[.int .u8 5] 5)) := (Below.refl _ _).alloc (Nat.le_refl _) _
                  have hz' := hz.trans (hn.mono hz.size)
                  have B3 : Bk (wz.alloc (.cells #[.int .u8 5] 5)) wz.heap.size 5 [.int .u8 5] := Bk.new wz 5 [.int .u8 5]
                  refine hK _ _ (hBc _ hz') (fun hS => ?_)
                  clear hK K
                  try have B1 := B1.below hn B1.lt
                  try have B2 := B2.below hn B2.lt
                  try have B4 := B4.below hn B4.lt
                  have hz := hz'
                  clear hz' hn
                  generalize (wz.alloc (.cells #[.int .u8 5] 5)) = wz at *
                  try simp only [List.getElem_toArray, List.getElem_cons_zero, List.getElem_cons_succ, Act.put, List.setIfInBounds_toArray, List.set_cons_zero, List.set_cons_succ]
                  refine wpAnyH_take (i := 11) (v := ?_) rfl (by kernel_rfl) (by kernel_rfl) (by kernel_rfl) (fun _ _ _ h => h) (Or.inl ⟨by rfl, ?_⟩) hS ?_
                  rotate_left 1
                  · intro w' hSw
                    go_simp <;> with_reducible rfl
                  try simp only [List.getElem_toArray, List.getElem_cons_zero, List.getElem_cons_succ, Act.put, List.setIfInBounds_toArray, List.set_cons_zero, List.set_cons_succ]
                  refine wpAnyH_ready (rs := [17]) (by kernel_rfl) (by simp) (AllReadyH.cons rfl (fun K hK => ?_) AllReadyH.nil)
                  go_simp
                  have hn : Below wz.heap.size wz (wz.alloc (.cells #[.int .u8 6, .int .u8 7, .int .u8 8] 5)) := (Below.refl _ _).alloc (Nat.le_refl _) _
                  have hz' := hz.trans (hn.mono hz.size)
                  have B4 : Bk (wz.alloc (.cells #[.int .u8 6, .int .u8 7, .int .u8 8] 5)) wz.heap.size 5 [.int .u8 6, .int .u8 7, .int .u8 8] := Bk.new wz 5 [.int .u8 6, .int .u8 7, .int .u8 8]
                  refine hK _ _ (hBc _ hz') (fun hS => ?_)
                  clear hK K
                  try have B1 := B1.below hn B1.lt
                  try have B2 := B2.below hn B2.lt
                  try have B3 := B3.below hn B3.lt
                  have hz := hz'
                  clear hz' hn
                  generalize (wz.alloc (.cells #[.int .u8 6, .int .u8 7, .int .u8 8] 5)) = wz at *
                  try simp only [List.getElem_toArray, List.getElem_cons_zero, List.getElem_cons_succ, Act.put, List.setIfInBounds_toArray, List.set_cons_zero, List.set_cons_succ]
                  refine wpAnyH_take (i := 18) (v := ?_) rfl (by kernel_rfl) (by kernel_rfl) (by kernel_rfl) (fun _ _ _ h => h) (Or.inl ⟨by rfl, ?_⟩) hS ?_
                  rotate_left 1
                  · intro w' hSw
                    go_simp <;> with_reducible rfl
                  try simp only [List.getElem_toArray, List.getElem_cons_zero, List.getElem_cons_succ, Act.put, List.setIfInBounds_toArray, List.set_cons_zero, List.set_cons_succ]
                  refine wpAnyH_ready (rs := [33]) (by kernel_rfl) (by simp) (AllReadyH.cons rfl (fun K hK => ?_) AllReadyH.nil)
                  go_simp
                  refine hK _ _ (hBc _ (hz.trans (((Below.refl _ _).alloc (Nat.le_refl _) _).mono hz.size))) (fun hS => ?_)
                  clear hK K
                  try simp only [List.getElem_toArray, List.getElem_cons_zero, List.getElem_cons_succ, Act.put, List.setIfInBounds_toArray, List.set_cons_zero, List.set_cons_succ]
                  refine wpAnyH_ready (rs := [34]) (by kernel_rfl) (by simp) (AllReadyH.cons rfl (fun K hK => ?_) AllReadyH.nil)
                  go_simp
                  refine hK _ _ hS (fun hS => ?_)
                  clear hK K
                  try simp only [List.getElem_toArray, List.getElem_cons_zero, List.getElem_cons_succ, Act.put, List.setIfInBounds_toArray, List.set_cons_zero, List.set_cons_succ]
                  refine wpAnyH_done (by kernel_rfl) ?_ _
                  have hD := row_new hz.size hx (xm_i64 (x - 1)) B1 B2 B3 B4
                  go_wp2_with fail
                  go_meet
                  exact ⟨_, hD, hz.trans (((Below.refl _ _).alloc (Nat.le_refl _) _).mono hz.size)⟩
                · go_simp
                  have hn : Below wz.heap.size wz (wz.alloc (.cells #[.int .u8 6, .int .u8 7, .int .u8 8] 5)) := (Below.refl _ _).alloc (Nat.le_refl _) _
                  have hz' := hz.trans (hn.mono hz.size)
                  have B4 : Bk (wz.alloc (.cells #[.int .u8 6, .int .u8 7, .int .u8 8] 5)) wz.heap.size 5 [.int .u8 6, .int .u8 7, .int .u8 8] := Bk.new wz 5 [.int .u8 6, .int .u8 7, .int .u8 8]
                  refine hK _ _ (hBc _ hz') (fun hS => ?_)
                  clear hK K
                  try have B1 := B1.below hn B1.lt
                  try have B2 := B2.below hn B2.lt
                  try have B3 := B3.below hn B3.lt
                  have hz := hz'
                  clear hz' hn
                  generalize (wz.alloc (.cells #[.int .u8 6, .int .u8 7, .int .u8 8] 5)) = wz at *
                  try simp only [List.getElem_toArray, List.getElem_cons_zero, List.getElem_cons_succ, Act.put, List.setIfInBounds_toArray, List.set_cons_zero, List.set_cons_succ]
                  refine wpAnyH_take (i := 18) (v := ?_) rfl (by kernel_rfl) (by kernel_rfl) (by kernel_rfl) (fun _ _ _ h => h) (Or.inl ⟨by rfl, ?_⟩) hS ?_
                  rotate_left 1
                  · intro w' hSw
                    go_simp <;> with_reducible rfl
                  try simp only [List.getElem_toArray, List.getElem_cons_zero, List.getElem_cons_succ, Act.put, List.setIfInBounds_toArray, List.set_cons_zero, List.set_cons_succ]
                  refine wpAnyH_ready (rs := [10]) (by kernel_rfl) (by simp) (AllReadyH.cons rfl (fun K hK => ?_) AllReadyH.nil)
                  go_simp
                  have hn : Below wz.heap.size wz (wz.alloc (.cells #[.int .u8 5] 5)) := (Below.refl _ _).alloc (Nat.le_refl _) _
                  have hz' := hz.trans (hn.mono hz.size)
                  have B3 : Bk (wz.alloc (.cells #[.int .u8 5] 5)) wz.heap.size 5 [.int .u8 5] := Bk.new wz 5 [.int .u8 5]
                  refine hK _ _ (hBc _ hz') (fun hS => ?_)
                  clear hK K
                  try have B1 := B1.below hn B1.lt
                  try have B2 := B2.below hn B2.lt
                  try have B4 := B4.below hn B4.lt
                  have hz := hz'
                  clear hz' hn
                  generalize (wz.alloc (.cells #[.int .u8 5] 5)) = wz at *
                  try simp only [List.getElem_toArray, List.getElem_cons_zero, List.getElem_cons_succ, Act.put, List.setIfInBounds_toArray, List.set_cons_zero, List.set_cons_succ]
                  refine wpAnyH_take (i := 11) (v := ?_) rfl (by kernel_rfl) (by kernel_rfl) (by kernel_rfl) (fun _ _ _ h => h) (Or.inl ⟨by rfl, ?_⟩) hS ?_
                  rotate_left 1
                  · intro w' hSw
                    go_simp <;> with_reducible rfl
                  try simp only [List.getElem_toArray, List.getElem_cons_zero, List.getElem_cons_succ, Act.put, List.setIfInBounds_toArray, List.set_cons_zero, List.set_cons_succ]
                  refine wpAnyH_ready (rs := [33]) (by kernel_rfl) (by simp) (AllReadyH.cons rfl (fun K hK => ?_) AllReadyH.nil)
                  go_simp
                  refine hK _ _ (hBc _ (hz.trans (((Below.refl _ _).alloc (Nat.le_refl _) _).mono hz.size))) (fun hS => ?_)
                  clear hK K
                  try simp only [List.getElem_toArray, List.getElem_cons_zero, List.getElem_cons_succ, Act.put, List.setIfInBounds_toArray, List.set_cons_zero, List.set_cons_succ]
                  refine wpAnyH_ready (rs := [34]) (by kernel_rfl) (by simp) (AllReadyH.cons rfl (fun K hK => ?_) AllReadyH.nil)
                  go_simp
                  refine hK _ _ hS (fun hS => ?_)
                  clear hK K
                  try simp only [List.getElem_toArray, List.getElem_cons_zero, List.getElem_cons_succ, Act.put, List.setIfInBounds_toArray, List.set_cons_zero, List.set_cons_succ]
                  refine wpAnyH_done (by kernel_rfl) ?_ _
                  have hD := row_new hz.size hx (xm_i64 (x - 1)) B1 B2 B3 B4
                  go_wp2_with fail
                  go_meet
                  exact ⟨_, hD, hz.trans (((Below.refl _ _).alloc (Nat.le_refl _) _).mono hz.size)⟩
              · go_simp
                have hn : Below wz.heap.size wz (wz.alloc (.cells #[.int .u8 5] 5)) := (Below.refl _ _).alloc (Nat.le_refl _) _
                have hz' := hz.trans (hn.mono hz.size)
                have B3 : Bk (wz.alloc (.cells #[.int .u8 5] 5)) wz.heap.size 5 [.int .u8 5] := Bk.new wz 5 [.int .u8 5]
                refine hK _ _ (hBc _ hz') (fun hS => ?_)
                clear hK K
                try have B1 := B1.below hn B1.lt
                try have B2 := B2.below hn B2.lt
                try have B4 := B4.below hn B4.lt
                have hz := hz'
                clear hz' hn
                generalize (wz.alloc (.cells #[.int .u8 5] 5)) = wz at *
                try simp only [List.getElem_toArray, List.getElem_cons_zero, List.getElem_cons_succ, Act.put, List.setIfInBounds_toArray, List.set_cons_zero, List.set_cons_succ]
                refine wpAnyH_take (i := 11) (v := ?_) rfl (by kernel_rfl) (by kernel_rfl) (by kernel_rfl) (fun _ _ _ h => h) (Or.inl ⟨by rfl, ?_⟩) hS ?_
                rotate_left 1
                · intro w' hSw
                  go_simp <;> with_reducible rfl
                try simp only [List.getElem_toArray, List.getElem_cons_zero, List.getElem_cons_succ, Act.put, List.setIfInBounds_toArray, List.set_cons_zero, List.set_cons_succ]
                refine wpAnyH_ready (rs := [0, 17]) (by kernel_rfl) (by simp) (AllReadyH.cons rfl (fun K hK => ?_) (AllReadyH.cons rfl (fun K hK => ?_) AllReadyH.nil))
                · go_simp
                  have hn : Below wz.heap.size wz (wz.alloc (.cells #[.int .u8 1, .int .u8 2] 5)) := (Below.refl _ _).alloc (Nat.le_refl _) _
                  have hz' := hz.trans (hn.mono hz.size)
                  have B1 : Bk (wz.alloc (.cells #[.int .u8 1, .int .u8 2] 5)) wz.heap.size 5 [.int .u8 1, .int .u8 2] := Bk.new wz 5 [.int .u8 1, .int .u8 2]
                  refine hK _ _ (hBc _ hz') (fun hS => ?_)
                  clear hK K
                  try have B2 := B2.below hn B2.lt
                  try have B3 := B3.below hn B3.lt
                  try have B4 := B4.below hn B4.lt
                  have hz := hz'
                  clear hz' hn
                  generalize (wz.alloc (.cells #[.int .u8 1, .int .u8 2] 5)) = wz at *
                  try simp only [List.getElem_toArray, List.getElem_cons_zero, List.getElem_cons_succ, Act.put, List.setIfInBounds_toArray, List.set_cons_zero, List.set_cons_succ]
                  refine wpAnyH_take (i := 1) (v := ?_) rfl (by kernel_rfl) (by kernel_rfl) (by kernel_rfl) (fun _ _ _ h => h) (Or.inl ⟨by rfl, ?_⟩) hS ?_
                  rotate_left 1
                  · intro w' hSw
                    go_simp <;> with_reducible rfl
                  try simp only [List.getElem_toArray, List.getElem_cons_zero, List.getElem_cons_succ, Act.put, List.setIfInBounds_toArray, List.set_cons_zero, List.set_cons_succ]
                  refine wpAnyH_ready (rs := [17]) (by kernel_rfl) (by simp) (AllReadyH.cons rfl (fun K hK => ?_) AllReadyH.nil)
                  go_simp
                  have hn : Below wz.heap.size wz (wz.alloc (.cells #[.int .u8 6, .int .u8 7, .int .u8 8] 5)) := (Below.refl _ _).alloc (Nat.le_refl _) _
                  have hz' := hz.trans (hn.mono hz.size)
                  have B4 : Bk (wz.alloc (.cells #[.int .u8 6, .int .u8 7, .int .u8 8] 5)) wz.heap.size 5 [.int .u8 6, .int .u8 7, .int .u8 8] := Bk.new wz 5 [.int .u8 6, .int .u8 7, .int .u8 8]
                  refine hK _ _ (hBc _ hz') (fun hS => ?_)
                  clear hK K
                  try have B1 := B1.below hn B1.lt
                  try have B2 := B2.below hn B2.lt
                  try have B3 := B3.below hn B3.lt
                  have hz := hz'
                  clear hz' hn
                  generalize (wz.alloc (.cells #[.int .u8 6, .int .u8 7, .int .u8 8] 5)) = wz at *
                  try simp only [List.getElem_toArray, List.getElem_cons_zero, List.getElem_cons_succ, Act.put, List.setIfInBounds_toArray, List.set_cons_zero, List.set_cons_succ]
                  refine wpAnyH_take (i := 18) (v := ?_) rfl (by kernel_rfl) (by kernel_rfl) (by kernel_rfl) (fun _ _ _ h => h) (Or.inl ⟨by rfl, ?_⟩) hS ?_
                  rotate_left 1
                  · intro w' hSw
                    go_simp <;> with_reducible rfl
                  try simp only [List.getElem_toArray, List.getElem_cons_zero, List.getElem_cons_succ, Act.put, List.setIfInBounds_toArray, List.set_cons_zero, List.set_cons_succ]
                  refine wpAnyH_ready (rs := [33]) (by kernel_rfl) (by simp) (AllReadyH.cons rfl (fun K hK => ?_) AllReadyH.nil)
                  go_simp
                  refine hK _ _ (hBc _ (hz.trans (((Below.refl _ _).alloc (Nat.le_refl _) _).mono hz.size))) (fun hS => ?_)
                  clear hK K
                  try simp only [List.getElem_toArray, List.getElem_cons_zero, List.getElem_cons_succ, Act.put, List.setIfInBounds_toArray, List.set_cons_zero, List.set_cons_succ]
                  refine wpAnyH_ready (rs := [34]) (by kernel_rfl) (by simp) (AllReadyH.cons rfl (fun K hK => ?_) AllReadyH.nil)
                  go_simp
                  refine hK _ _ hS (fun hS => ?_)
                  clear hK K
                  try simp only [List.getElem_toArray, List.getElem_cons_zero, List.getElem_cons_succ, Act.put, List.setIfInBounds_toArray, List.set_cons_zero, List.set_cons_succ]
                  refine wpAnyH_done (by kernel_rfl) ?_ _
                  have hD := row_new hz.size hx (xm_i64 (x - 1)) B1 B2 B3 B4
                  go_wp2_with fail
                  go_meet
                  exact ⟨_, hD, hz.trans (((Below.refl _ _).alloc (Nat.le_refl _) _).mono hz.size)⟩
                · go_simp
                  have hn : Below wz.heap.size wz (wz.alloc (.cells #[.int .u8 6, .int .u8 7, .int .u8 8] 5)) := (Below.refl _ _).alloc (Nat.le_refl _) _
                  have hz' := hz.trans (hn.mono hz.size)
                  have B4 : Bk (wz.alloc (.cells #[.int .u8 6, .int .u8 7, .int .u8 8] 5)) wz.heap.size 5 [.int .u8 6, .int .u8 7, .int .u8 8] := Bk.new wz 5 [.int .u8 6, .int .u8 7, .int .u8 8]
                  refine hK _ _ (hBc _ hz') (fun hS => ?_)
                  clear hK K
                  try have B1 := B1.below hn B1.lt
                  try have B2 := B2.below hn B2.lt
                  try have B3 := B3.below hn B3.lt
                  have hz := hz'
                  clear hz' hn
                  generalize (wz.alloc (.cells #[.int .u8 6, .int .u8 7, .int .u8 8] 5)) = wz at *
                  try simp only [List.getElem_toArray, List.getElem_cons_zero, List.getElem_cons_succ, Act.put, List.setIfInBounds_toArray, List.set_cons_zero, List.set_cons_succ]
                  refine wpAnyH_take (i := 18) (v := ?_) rfl (by kernel_rfl) (by kernel_rfl) (by kernel_rfl) (fun _ _ _ h => h) (Or.inl ⟨by rfl, ?_⟩) hS ?_
                  rotate_left 1
                  · intro w' hSw
                    go_simp <;> with_reducible rfl
                  try simp only [List.getElem_toArray, List.getElem_cons_zero, List.getElem_cons_succ, Act.put, List.setIfInBounds_toArray, List.set_cons_zero, List.set_cons_succ]
                  refine wpAnyH_ready (rs := [0]) (by kernel_rfl) (by simp) (AllReadyH.cons rfl (fun K hK => ?_) AllReadyH.nil)
                  go_simp
                  have hn : Below wz.heap.size wz (wz.alloc (.cells #[.int .u8 1, .int .u8 2] 5)) := (Below.refl _ _).alloc (Nat.le_refl _) _
                  have hz' := hz.trans (hn.mono hz.size)
                  have B1 : Bk (wz.alloc (.cells #[.int .u8 1, .int .u8 2] 5)) wz.heap.size 5 [.int .u8 1, .int .u8 2] := Bk.new wz 5 [.int .u8 1, .int .u8 2]
                  refine hK _ _ (hBc _ hz') (fun hS => ?_)
                  clear hK K
                  try have B2 := B2.below hn B2.lt
                  try have B3 := B3.below hn B3.lt
                  try have B4 := B4.below hn B4.lt
                  have hz := hz'
                  clear hz' hn
                  generalize (wz.alloc (.cells #[.int .u8 1, .int .u8 2] 5)) = wz at *
                  try simp only [List.getElem_toArray, List.getElem_cons_zero, List.getElem_cons_succ, Act.put, List.setIfInBounds_toArray, List.set_cons_zero, List.set_cons_succ]
                  refine wpAnyH_take (i := 1) (v := ?_) rfl (by kernel_rfl) (by kernel_rfl) (by kernel_rfl) (fun _ _ _ h => h) (Or.inl ⟨by rfl, ?_⟩) hS ?_
                  rotate_left 1
                  · intro w' hSw
                    go_simp <;> with_reducible rfl
                  try simp only [List.getElem_toArray, List.getElem_cons_zero, List.getElem_cons_succ, Act.put, List.setIfInBounds_toArray, List.set_cons_zero, List.set_cons_succ]
                  refine wpAnyH_ready (rs := [33]) (by kernel_rfl) (by simp) (AllReadyH.cons rfl (fun K hK => ?_) AllReadyH.nil)
                  go_simp
                  refine hK _ _ (hBc _ (hz.trans (((Below.refl _ _).alloc (Nat.le_refl _) _).mono hz.size))) (fun hS => ?_)
                  clear hK K
                  try simp only [List.getElem_toArray, List.getElem_cons_zero, List.getElem_cons_succ, Act.put, List.setIfInBounds_toArray, List.set_cons_zero, List.set_cons_succ]
                  refine wpAnyH_ready (rs := [34]) (by kernel_rfl) (by simp) (AllReadyH.cons rfl (fun K hK => ?_) AllReadyH.nil)
                  go_simp
                  refine hK _ _ hS (fun hS => ?_)
                  clear hK K
                  try simp only [List.getElem_toArray, List.getElem_cons_zero, List.getElem_cons_succ, Act.put, List.setIfInBounds_toArray, List.set_cons_zero, List.set_cons_succ]
                  refine wpAnyH_done (by kernel_rfl) ?_ _
                  have hD := row_new hz.size hx (xm_i64 (x - 1)) B1 B2 B3 B4
                  go_wp2_with fail
                  go_meet
                  exact ⟨_, hD, hz.trans (((Below.refl _ _).alloc (Nat.le_refl _) _).mono hz.size)⟩
              · go_simp
                have hn : Below wz.heap.size wz (wz.alloc (.cells #[.int .u8 6, .int .u8 7, .int .u8 8] 5)) := (Below.refl _ _).alloc (Nat.le_refl _) _
                have hz' := hz.trans (hn.mono hz.size)
                have B4 : Bk (wz.alloc (.cells #[.int .u8 6, .int .u8 7, .int .u8 8] 5)) wz.heap.size 5 [.int .u8 6, .int .u8 7, .int .u8 8] := Bk.new wz 5 [.int .u8 6, .int .u8 7, .int .u8 8]
                refine hK _ _ (hBc _ hz') (fun hS => ?_)
                clear hK K
                try have B1 := B1.below hn B1.lt
                try have B2 := B2.below hn B2.lt
                try have B3 := B3.below hn B3.lt
                have hz := hz'
                clear hz' hn
                generalize (wz.alloc (.cells #[.int .u8 6, .int .u8 7, .int .u8 8] 5)) = wz at *
                try simp only [List.getElem_toArray, List.getElem_cons_zero, List.getElem_cons_succ, Act.put, List.setIfInBounds_toArray, List.set_cons_zero, List.set_cons_succ]
                refine wpAnyH_take (i := 18) (v := ?_) rfl (by kernel_rfl) (by kernel_rfl) (by kernel_rfl) (fun _ _ _ h => h) (Or.inl ⟨by rfl, ?_⟩) hS ?_
                rotate_left 1
                · intro w' hSw
                  go_simp <;> with_reducible rfl
                try simp only [List.getElem_toArray, List.getElem_cons_zero, List.getElem_cons_succ, Act.put, List.setIfInBounds_toArray, List.set_cons_zero, List.set_cons_succ]
                refine wpAnyH_ready (rs := [0, 10]) (by kernel_rfl) (by simp) (AllReadyH.cons rfl (fun K hK => ?_) (AllReadyH.cons rfl (fun K hK => ?_) AllReadyH.nil))
                · go_simp
                  have hn : Below wz.heap.size wz (wz.alloc (.cells #[.int .u8 1, .int .u8 2] 5)) := (Below.refl _ _).alloc (Nat.le_refl _) _
                  have hz' := hz.trans (hn.mono hz.size)
                  have B1 : Bk (wz.alloc (.cells #[.int .u8 1, .int .u8 2] 5)) wz.heap.size 5 [.int .u8 1, .int .u8 2] := Bk.new wz 5 [.int .u8 1, .int .u8 2]
                  refine hK _ _ (hBc _ hz') (fun hS => ?_)
                  clear hK K
                  try have B2 := B2.below hn B2.lt
                  try have B3 := B3.below hn B3.lt
                  try have B4 := B4.below hn B4.lt
                  have hz := hz'
                  clear hz' hn
                  generalize (wz.alloc (.cells #[.int .u8 1, .int .u8 2] 5)) = wz at *
                  try simp only [List.getElem_toArray, List.getElem_cons_zero, List.getElem_cons_succ, Act.put, List.setIfInBounds_toArray, List.set_cons_zero, List.set_cons_succ]
                  refine wpAnyH_take (i := 1) (v := ?_) rfl (by kernel_rfl) (by kernel_rfl) (by kernel_rfl) (fun _ _ _ h => h) (Or.inl ⟨by rfl, ?_⟩) hS ?_
                  rotate_left 1
                  · intro w' hSw
                    go_simp <;> with_reducible rfl
                  try simp only [List.getElem_toArray, List.getElem_cons_zero, List.getElem_cons_succ, Act.put, List.setIfInBounds_toArray, List.set_cons_zero, List.set_cons_succ]
                  refine wpAnyH_ready (rs := [10]) (by kernel_rfl) (by simp) (AllReadyH.cons rfl (fun K hK => ?_) AllReadyH.nil)
                  go_simp
                  have hn : Below wz.heap.size wz (wz.alloc (.cells #[.int .u8 5] 5)) := (Below.refl _ _).alloc (Nat.le_refl _) _
                  have hz' := hz.trans (hn.mono hz.size)
                  have B3 : Bk (wz.alloc (.cells #[.int .u8 5] 5)) wz.heap.size 5 [.int .u8 5] := Bk.new wz 5 [.int .u8 5]
                  refine hK _ _ (hBc _ hz') (fun hS => ?_)
                  clear hK K
                  try have B1 := B1.below hn B1.lt
                  try have B2 := B2.below hn B2.lt
                  try have B4 := B4.below hn B4.lt
                  have hz := hz'
                  clear hz' hn
                  generalize (wz.alloc (.cells #[.int .u8 5] 5)) = wz at *
                  try simp only [List.getElem_toArray, List.getElem_cons_zero, List.getElem_cons_succ, Act.put, List.setIfInBounds_toArray, List.set_cons_zero, List.set_cons_succ]
                  refine wpAnyH_take (i := 11) (v := ?_) rfl (by kernel_rfl) (by kernel_rfl) (by kernel_rfl) (fun _ _ _ h => h) (Or.inl ⟨by rfl, ?_⟩) hS ?_
                  rotate_left 1
                  · intro w' hSw
                    go_simp <;> with_reducible rfl
                  try simp only [List.getElem_toArray, List.getElem_cons_zero, List.getElem_cons_succ, Act.put, List.setIfInBounds_toArray, List.set_cons_zero, List.set_cons_succ]
                  refine wpAnyH_ready (rs := [33]) (by kernel_rfl) (by simp) (AllReadyH.cons rfl (fun K hK => ?_) AllReadyH.nil)
                  go_simp
                  refine hK _ _ (hBc _ (hz.trans (((Below.refl _ _).alloc (Nat.le_refl _) _).mono hz.size))) (fun hS => ?_)
                  clear hK K
                  try simp only [List.getElem_toArray, List.getElem_cons_zero, List.getElem_cons_succ, Act.put, List.setIfInBounds_toArray, List.set_cons_zero, List.set_cons_succ]
                  refine wpAnyH_ready (rs := [34]) (by kernel_rfl) (by simp) (AllReadyH.cons rfl (fun K hK => ?_) AllReadyH.nil)
                  go_simp
                  refine hK _ _ hS (fun hS => ?_)
                  clear hK K
                  try simp only [List.getElem_toArray, List.getElem_cons_zero, List.getElem_cons_succ, Act.put, List.setIfInBounds_toArray, List.set_cons_zero, List.set_cons_succ]
                  refine wpAnyH_done (by kernel_rfl) ?_ _
                  have hD := row_new hz.size hx (xm_i64 (x - 1)) B1 B2 B3 B4
                  go_wp2_with fail
                  go_meet
                  exact ⟨_, hD, hz.trans (((Below.refl _ _).alloc (Nat.le_refl _) _).mono hz.size)⟩
                · go_simp
                  have hn : Below wz.heap.size wz (wz.alloc (.cells #[.int .u8 5] 5)) := (Below.refl _ _).alloc (Nat.le_refl _) _
                  have hz' := hz.trans (hn.mono hz.size)
                  have B3 : Bk (wz.alloc (.cells #[.int .u8 5] 5)) wz.heap.size 5 [.int .u8 5] := Bk.new wz 5 [.int .u8 5]
                  refine hK _ _ (hBc _ hz') (fun hS => ?_)
                  clear hK K
                  try have B1 := B1.below hn B1.lt
                  try have B2 := B2.below hn B2.lt
                  try have B4 := B4.below hn B4.lt
                  have hz := hz'
                  clear hz' hn
                  generalize (wz.alloc (.cells #[.int .u8 5] 5)) = wz at *
                  try simp only [List.getElem_toArray, List.getElem_cons_zero, List.getElem_cons_succ, Act.put, List.setIfInBounds_toArray, List.set_cons_zero, List.set_cons_succ]
                  refine wpAnyH_take (i := 11) (v := ?_) rfl (by kernel_rfl) (by kernel_rfl) (by kernel_rfl) (fun _ _ _ h => h) (Or.inl ⟨by rfl, ?_⟩) hS ?_
                  rotate_left 1
                  · intro w' hSw
                    go_simp <;> with_reducible rfl
                  try simp only [List.getElem_toArray, List.getElem_cons_zero, List.getElem_cons_succ, Act.put, List.setIfInBounds_toArray, List.set_cons_zero, List.set_cons_succ]
                  refine wpAnyH_ready (rs := [0]) (by kernel_rfl) (by simp) (AllReadyH.cons rfl (fun K hK => ?_) AllReadyH.nil)
                  go_simp
                  have hn : Below wz.heap.size wz (wz.alloc (.cells #[.int .u8 1, .int .u8 2] 5)) := (Below.refl _ _).alloc (Nat.le_refl _) _
                  have hz' := hz.trans (hn.mono hz.size)
                  have B1 : Bk (wz.alloc (.cells #[.int .u8 1, .int .u8 2] 5)) wz.heap.size 5 [.int .u8 1, .int .u8 2] := Bk.new wz 5 [.int .u8 1, .int .u8 2]
                  refine hK _ _ (hBc _ hz') (fun hS => ?_)
                  clear hK K
                  try have B2 := B2.below hn B2.lt
                  try have B3 := B3.below hn B3.lt
                  try have B4 := B4.below hn B4.lt
                  have hz := hz'
                  clear hz' hn
                  generalize (wz.alloc (.cells #[.int .u8 1, .int .u8 2] 5)) = wz at *
                  try simp only [List.getElem_toArray, List.getElem_cons_zero, List.getElem_cons_succ, Act.put, List.setIfInBounds_toArray, List.set_cons_zero, List.set_cons_succ]
                  refine wpAnyH_take (i := 1) (v := ?_) rfl (by kernel_rfl) (by kernel_rfl) (by kernel_rfl) (fun _ _ _ h => h) (Or.inl ⟨by rfl, ?_⟩) hS ?_
                  rotate_left 1
                  · intro w' hSw
                    go_simp <;> with_reducible rfl
                  try simp only [List.getElem_toArray, List.getElem_cons_zero, List.getElem_cons_succ, Act.put, List.setIfInBounds_toArray, List.set_cons_zero, List.set_cons_succ]
                  refine wpAnyH_ready (rs := [33]) (by kernel_rfl) (by simp) (AllReadyH.cons rfl (fun K hK => ?_) AllReadyH.nil)
                  go_simp
                  refine hK _ _ (hBc _ (hz.trans (((Below.refl _ _).alloc (Nat.le_refl _) _).mono hz.size))) (fun hS => ?_)
                  clear hK K
                  try simp only [List.getElem_toArray, List.getElem_cons_zero, List.getElem_cons_succ, Act.put, List.setIfInBounds_toArray, List.set_cons_zero, List.set_cons_succ]
                  refine wpAnyH_ready (rs := [34]) (by kernel_rfl) (by simp) (AllReadyH.cons rfl (fun K hK => ?_) AllReadyH.nil)
                  go_simp
                  refine hK _ _ hS (fun hS => ?_)
                  clear hK K
                  try simp only [List.getElem_toArray, List.getElem_cons_zero, List.getElem_cons_succ, Act.put, List.setIfInBounds_toArray, List.set_cons_zero, List.set_cons_succ]
                  refine wpAnyH_done (by kernel_rfl) ?_ _
                  have hD := row_new hz.size hx (xm_i64 (x - 1)) B1 B2 B3 B4
                  go_wp2_with fail
                  go_meet
                  exact ⟨_, hD, hz.trans (((Below.refl _ _).alloc (Nat.le_refl _) _).mono hz.size)⟩
            · go_simp
              have hn : Below wz.heap.size wz (wz.alloc (.cells #[.int .u8 5] 5)) := (Below.refl _ _).alloc (Nat.le_refl _) _
              have hz' := hz.trans (hn.mono hz.size)
              have B3 : Bk (wz.alloc (.cells #[.int .u8 5] 5)) wz.heap.size 5 [.int .u8 5] := Bk.new wz 5 [.int .u8 5]
              refine hK _ _ (hBc _ hz') (fun hS => ?_)
              clear hK K
              try have B1 := B1.below hn B1.lt
              try have B2 := B2.below hn B2.lt
              try have B4 := B4.below hn B4.lt
              have hz := hz'
              clear hz' hn
              generalize (wz.alloc (.cells #[.int .u8 5] 5)) = wz at *
              try simp only [List.getElem_toArray, List.getElem_cons_zero, List.getElem_cons_succ, Act.put, List.setIfInBounds_toArray, List.set_cons_zero, List.set_cons_succ]
              refine wpAnyH_take (i := 11) (v := ?_) rfl (by kernel_rfl) (by kernel_rfl) (by kernel_rfl) (fun _ _ _ h => h) (Or.inl ⟨by rfl, ?_⟩) hS ?_
              rotate_left 1
              · intro w' hSw
                go_simp <;> with_reducible rfl
              try simp only [List.getElem_toArray, List.getElem_cons_zero, List.getElem_cons_succ, Act.put, List.setIfInBounds_toArray, List.set_cons_zero, List.set_cons_succ]
              refine wpAnyH_ready (rs := [0, 3, 17]) (by kernel_rfl) (by simp) (AllReadyH.cons rfl (fun K hK => ?_) (AllReadyH.cons rfl (fun K hK => ?_) (AllReadyH.cons rfl (fun K hK => ?_) AllReadyH.nil)))
              · go_simp
                have hn : Below wz.heap.size wz (wz.alloc (.cells #[.int .u8 1, .int .u8 2] 5)) := (Below.refl _ _).alloc (Nat.le_refl _) _
                have hz' := hz.trans (hn.mono hz.size)
                have B1 : Bk (wz.alloc (.cells #[.int .u8 1, .int .u8 2] 5)) wz.heap.size 5 [.int .u8 1, .int .u8 2] := Bk.new wz 5 [.int .u8 1, .int .u8 2]
                refine hK _ _ (hBc _ hz') (fun hS => ?_)
                clear hK K
                try have B2 := B2.below hn B2.lt
                try have B3 := B3.below hn B3.lt
                try have B4 := B4.below hn B4.lt
                have hz := hz'
                clear hz' hn
                generalize (wz.alloc (.cells #[.int .u8 1, .int .u8 2] 5)) = wz at *
                try simp only [List.getElem_toArray, List.getElem_cons_zero, List.getElem_cons_succ, Act.put, List.setIfInBounds_toArray, List.set_cons_zero, List.set_cons_succ]
                refine wpAnyH_take (i := 1) (v := ?_) rfl (by kernel_rfl) (by kernel_rfl) (by kernel_rfl) (fun _ _ _ h => h) (Or.inl ⟨by rfl, ?_⟩) hS ?_
                rotate_left 1
                · intro w' hSw
                  go_simp <;> with_reducible rfl
                try simp only [List.getElem_toArray, List.getElem_cons_zero, List.getElem_cons_succ, Act.put, List.setIfInBounds_toArray, List.set_cons_zero, List.set_cons_succ]
                refine wpAnyH_ready (rs := [3, 17]) (by kernel_rfl) (by simp) (AllReadyH.cons rfl (fun K hK => ?_) (AllReadyH.cons rfl (fun K hK => ?_) AllReadyH.nil))
                · go_simp
                  have hn : Below wz.heap.size wz (wz.alloc (.cells #[.int .u8 3, .int .u8 4] 5)) := (Below.refl _ _).alloc (Nat.le_refl _) _
                  have hz' := hz.trans (hn.mono hz.size)
                  have B2 : Bk (wz.alloc (.cells #[.int .u8 3, .int .u8 4] 5)) wz.heap.size 5 [.int .u8 3, .int .u8 4] := Bk.new wz 5 [.int .u8 3, .int .u8 4]
                  refine hK _ _ (hBc _ hz') (fun hS => ?_)
                  clear hK K
                  try have B1 := B1.below hn B1.lt
                  try have B3 := B3.below hn B3.lt
                  try have B4 := B4.below hn B4.lt
                  have hz := hz'
                  clear hz' hn
                  generalize (wz.alloc (.cells #[.int .u8 3, .int .u8 4] 5)) = wz at *
                  try simp only [List.getElem_toArray, List.getElem_cons_zero, List.getElem_cons_succ, Act.put, List.setIfInBounds_toArray, List.set_cons_zero, List.set_cons_succ]
                  refine wpAnyH_take (i := 4) (v := ?_) rfl (by kernel_rfl) (by kernel_rfl) (by kernel_rfl) (fun _ _ _ h => h) (Or.inl ⟨by rfl, ?_⟩) hS ?_
                  rotate_left 1
                  · intro w' hSw
                    go_simp <;> with_reducible rfl
                  try simp only [List.getElem_toArray, List.getElem_cons_zero, List.getElem_cons_succ, Act.put, List.setIfInBounds_toArray, List.set_cons_zero, List.set_cons_succ]
                  refine wpAnyH_ready (rs := [17]) (by kernel_rfl) (by simp) (AllReadyH.cons rfl (fun K hK => ?_) AllReadyH.nil)
                  go_simp
                  have hn : Below wz.heap.size wz (wz.alloc (.cells #[.int .u8 6, .int .u8 7, .int .u8 8] 5)) := (Below.refl _ _).alloc (Nat.le_refl _) _
                  have hz' := hz.trans (hn.mono hz.size)
                  have B4 : Bk (wz.alloc (.cells #[.int .u8 6, .int .u8 7, .int .u8 8] 5)) wz.heap.size 5 [.int .u8 6, .int .u8 7, .int .u8 8] := Bk.new wz 5 [.int .u8 6, .int .u8 7, .int .u8 8]
                  refine hK _ _ (hBc _ hz') (fun hS => ?_)
                  clear hK K
                  try have B1 := B1.below hn B1.lt
                  try have B2 := B2.below hn B2.lt
                  try have B3 := B3.below hn B3.lt
                  have hz := hz'
                  clear hz' hn
                  generalize (wz.alloc (.cells #[.int .u8 6, .int .u8 7, .int .u8 8] 5)) = wz at *
                  try simp only [List.getElem_toArray, List.getElem_cons_zero, List.getElem_cons_succ, Act.put, List.setIfInBounds_toArray, List.set_cons_zero, List.set_cons_succ]
                  refine wpAnyH_take (i := 18) (v := ?_) rfl (by kernel_rfl) (by kernel_rfl) (by kernel_rfl) (fun _ _ _ h => h) (Or.inl ⟨by rfl, ?_⟩) hS ?_
                  rotate_left 1
                  · intro w' hSw
                    go_simp <;> with_reducible rfl
                  try simp only [List.getElem_toArray, List.getElem_cons_zero, List.getElem_cons_succ, Act.put, List.setIfInBounds_toArray, List.set_cons_zero, List.set_cons_succ]
                  refine wpAnyH_ready (rs := [33]) (by kernel_rfl) (by simp) (AllReadyH.cons rfl (fun K hK => ?_) AllReadyH.nil)
                  go_simp
                  refine hK _ _ (hBc _ (hz.trans (((Below.refl _ _).alloc (Nat.le_refl _) _).mono hz.size))) (fun hS => ?_)
                  clear hK K
                  try simp only [List.getElem_toArray, List.getElem_cons_zero, List.getElem_cons_succ, Act.put, List.setIfInBounds_toArray, List.set_cons_zero, List.set_cons_succ]
                  refine wpAnyH_ready (rs := [34]) (by kernel_rfl) (by simp) (AllReadyH.cons rfl (fun K hK => ?_) AllReadyH.nil)
                  go_simp
                  refine hK _ _ hS (fun hS => ?_)
                  clear hK K
                  try simp only [List.getElem_toArray, List.getElem_cons_zero, List.getElem_cons_succ, Act.put, List.setIfInBounds_toArray, List.set_cons_zero, List.set_cons_succ]
                  refine wpAnyH_done (by kernel_rfl) ?_ _
                  have hD := row_new hz.size hx (xm_i64 (x - 1)) B1 B2 B3 B4
                  go_wp2_with fail
                  go_meet
                  exact ⟨_, hD, hz.trans (((Below.refl _ _).alloc (Nat.le_refl _) _).mono hz.size)⟩
                · go_simp
                  have hn : Below wz.heap.size wz (wz.alloc (.cells #[.int .u8 6, .int .u8 7, .int .u8 8] 5)) := (Below.refl _ _).alloc (Nat.le_refl _) _
                  have hz' := hz.trans (hn.mono hz.size)
                  have B4 : Bk (wz.alloc (.cells #[.int .u8 6, .int .u8 7, .int .u8 8] 5)) wz.heap.size 5 [.int .u8 6, .int .u8 7, .int .u8 8] := Bk.new wz 5 [.int .u8 6, .int .u8 7, .int .u8 8]
                  refine hK _ _ (hBc _ hz') (fun hS => ?_)
                  clear hK K
                  try have B1 := B1.below hn B1.lt
                  try have B2 := B2.below hn B2.lt
                  try have B3 := B3.below hn B3.lt
                  have hz := hz'
                  clear hz' hn
                  generalize (wz.alloc (.cells #[.int .u8 6, .int .u8 7, .int .u8 8] 5)) = wz at *
                  try simp only [List.getElem_toArray, List.getElem_cons_zero, List.getElem_cons_succ, Act.put, List.setIfInBounds_toArray, List.set_cons_zero, List.set_cons_succ]
                  refine wpAnyH_take (i := 18) (v := ?_) rfl (by kernel_rfl) (by kernel_rfl) (by kernel_rfl) (fun _ _ _ h => h) (Or.inl ⟨by rfl, ?_⟩) hS ?_
                  rotate_left 1
                  · intro w' hSw
                    go_simp <;> with_reducible rfl
                  try simp only [List.getElem_toArray, List.getElem_cons_zero, List.getElem_cons_succ, Act.put, List.setIfInBounds_toArray, List.set_cons_zero, List.set_cons_succ]
                  refine wpAnyH_ready (rs := [3]) (by kernel_rfl) (by simp) (AllReadyH.cons rfl (fun K hK => ?_) AllReadyH.nil)
                  go_simp
                  have hn : Below wz.heap.size wz (wz.alloc (.cells #[.int .u8 3, .int .u8 4] 5)) := (Below.refl _ _).alloc (Nat.le_refl _) _
                  have hz' := hz.trans (hn.mono hz.size)
                  have B2 : Bk (wz.alloc (.cells #[.int .u8 3, .int .u8 4] 5)) wz.heap.size 5 [.int .u8 3, .int .u8 4] := Bk.new wz 5 [.int .u8 3, .int .u8 4]
                  refine hK _ _ (hBc _ hz') (fun hS => ?_)
                  clear hK K
                  try have B1 := B1.below hn B1.lt
                  try have B3 := B3.below hn B3.lt
                  try have B4 := B4.below hn B4.lt
                  have hz := hz'
                  clear hz' hn
                  generalize (wz.alloc (.cells #[.int .u8 3, .int .u8 4] 5)) = wz at *
                  try simp only [List.getElem_toArray, List.getElem_cons_zero, List.getElem_cons_succ, Act.put, List.setIfInBounds_toArray, List.set_cons_zero, List.set_cons_succ]
                  refine wpAnyH_take (i := 4) (v := ?_) rfl (by kernel_rfl) (by kernel_rfl) (by kernel_rfl) (fun _ _ _ h => h) (Or.inl ⟨by rfl, ?_⟩) hS ?_
                  rotate_left 1
                  · intro w' hSw
                    go_simp <;> with_reducible rfl
                  try simp only [List.getElem_toArray, List.getElem_cons_zero, List.getElem_cons_succ, Act.put, List.setIfInBounds_toArray, List.set_cons_zero, List.set_cons_succ]
                  refine wpAnyH_ready (rs := [33]) (by kernel_rfl) (by simp) (AllReadyH.cons rfl (fun K hK => ?_) AllReadyH.nil)
                  go_simp
                  refine hK _ _ (hBc _ (hz.trans (((Below.refl _ _).alloc (Nat.le_refl _) _).mono hz.size))) (fun hS => ?_)
                  clear hK K
                  try simp only [List.getElem_toArray, List.getElem_cons_zero, List.getElem_cons_succ, Act.put, List.setIfInBounds_toArray, List.set_cons_zero, List.set_cons_succ]
                  refine wpAnyH_ready (rs := [34]) (by kernel_rfl) (by simp) (AllReadyH.cons rfl (fun K hK => ?_) AllReadyH.nil)
                  go_simp
                  refine hK _ _ hS (fun hS => ?_)
                  clear hK K
                  try simp only [List.getElem_toArray, List.getElem_cons_zero, List.getElem_cons_succ, Act.put, List.setIfInBounds_toArray, List.set_cons_zero, List.set_cons_succ]
                  refine wpAnyH_done (by kernel_rfl) ?_ _
                  have hD := row_new hz.size hx (xm_i64 (x - 1)) B1 B2 B3 B4
                  go_wp2_with fail
                  go_meet
                  exact ⟨_, hD, hz.trans (((Below.refl _ _).alloc (Nat.le_refl _) _).mono hz.size)⟩
              · go_simp
                have hn : Below wz.heap.size wz (wz.alloc (.cells #[.int .u8 3, .int .u8 4] 5)) := (Below.refl _ _).alloc (Nat.le_refl _) _
                have hz' := hz.trans (hn.mono hz.size)
                have B2 : Bk (wz.alloc (.cells #[.int .u8 3, .int .u8 4] 5)) wz.heap.size 5 [.int .u8 3, .int .u8 4] := Bk.new wz 5 [.int .u8 3, .int .u8 4]
                refine hK _ _ (hBc _ hz') (fun hS => ?_)
                clear hK K
                try have B1 := B1.below hn B1.lt
                try have B3 := B3.below hn B3.lt
                try have B4 := B4.below hn B4.lt
                have hz := hz'
                clear hz' hn
                generalize (wz.alloc (.cells #[.int .u8 3, .int .u8 4] 5)) = wz at *
                try simp only [List.getElem_toArray, List.getElem_cons_zero, List.getElem_cons_succ, Act.put, List.setIfInBounds_toArray, List.set_cons_zero, List.set_cons_succ]
                refine wpAnyH_take (i := 4) (v := ?_) rfl (by kernel_rfl) (by kernel_rfl) (by kernel_rfl) (fun _ _ _ h => h) (Or.inl ⟨by rfl, ?_⟩) hS ?_
                rotate_left 1
                · intro w' hSw
                  go_simp <;> with_reducible rfl
                try simp only [List.getElem_toArray, List.getElem_cons_zero, List.getElem_cons_succ, Act.put, List.setIfInBounds_toArray, List.set_cons_zero, List.set_cons_succ]
                refine wpAnyH_ready (rs := [0, 17]) (by kernel_rfl) (by simp) (AllReadyH.cons rfl (fun K hK => ?_) (AllReadyH.cons rfl (fun K hK => ?_) AllReadyH.nil))
                · go_simp
                  have hn : Below wz.heap.size wz (wz.alloc (.cells #[.int .u8 1, .int .u8 2] 5)) := (Below.refl _ _).alloc (Nat.le_refl _) _
                  have hz' := hz.trans (hn.mono hz.size)
                  have B1 : Bk (wz.alloc (.cells #[.int .u8 1, .int .u8 2] 5)) wz.heap.size 5 [.int .u8 1, .int .u8 2] := Bk.new wz 5 [.int .u8 1, .int .u8 2]
                  refine hK _ _ (hBc _ hz') (fun hS => ?_)
                  clear hK K
                  try have B2 := B2.below hn B2.lt
                  try have B3 := B3.below hn B3.lt
                  try have B4 := B4.below hn B4.lt
                  have hz := hz'
                  clear hz' hn
                  generalize (wz.alloc (.cells #[.int .u8 1, .int .u8 2] 5)) = wz at *
                  try simp only [List.getElem_toArray, List.getElem_cons_zero, List.getElem_cons_succ, Act.put, List.setIfInBounds_toArray, List.set_cons_zero, List.set_cons_succ]
                  refine wpAnyH_take (i := 1) (v := ?_) rfl (by kernel_rfl) (by kernel_rfl) (by kernel_rfl) (fun _ _ _ h => h) (Or.inl ⟨by rfl, ?_⟩) hS ?_
                  rotate_left 1
                  · intro w' hSw
                    go_simp <;> with_reducible rfl
                  try simp only [List.getElem_toArray, List.getElem_cons_zero, List.getElem_cons_succ, Act.put, List.setIfInBounds_toArray, List.set_cons_zero, List.set_cons_succ]
                  refine wpAnyH_ready (rs := [17]) (by kernel_rfl) (by simp) (AllReadyH.cons rfl (fun K hK => ?_) AllReadyH.nil)
                  go_simp
                  have hn : Below wz.heap.size wz (wz.alloc (.cells #[.int .u8 6, .int .u8 7, .int .u8 8] 5)) := (Below.refl _ _).alloc (Nat.le_refl _) _
                  have hz' := hz.trans (hn.mono hz.size)
                  have B4 : Bk (wz.alloc (.cells #[.int .u8 6, .int .u8 7, .int .u8 8] 5)) wz.heap.size 5 [.int .u8 6, .int .u8 7, .int .u8 8] := Bk.new wz 5 [.int .u8 6, .int .u8 7, .int .u8 8]
                  refine hK _ _ (hBc _ hz') (fun hS => ?_)
                  clear hK K
                  try have B1 := B1.below hn B1.lt
                  try have B2 := B2.below hn B2.lt
                  try have B3 := B3.below hn B3.lt
                  have hz := hz'
                  clear hz' hn
                  generalize (wz.alloc (.cells #[.int .u8 6, .int .u8 7, .int .u8 8] 5)) = wz at *
                  try simp only [List.getElem_toArray, List.getElem_cons_zero, List.getElem_cons_succ, Act.put, List.setIfInBounds_toArray, List.set_cons_zero, List.set_cons_succ]
                  refine wpAnyH_take (i := 18) (v := ?_) rfl (by kernel_rfl) (by kernel_rfl) (by kernel_rfl) (fun _ _ _ h => h) (Or.inl ⟨by rfl, ?_⟩) hS ?_
                  rotate_left 1
                  · intro w' hSw
                    go_simp <;> with_reducible rfl
                  try simp only [List.getElem_toArray, List.getElem_cons_zero, List.getElem_cons_succ, Act.put, List.setIfInBounds_toArray, List.set_cons_zero, List.set_cons_succ]
                  refine wpAnyH_ready (rs := [33]) (by kernel_rfl) (by simp) (AllReadyH.cons rfl (fun K hK => ?_) AllReadyH.nil)
                  go_simp
                  refine hK _ _ (hBc _ (hz.trans (((Below.refl _ _).alloc (Nat.le_refl _) _).mono hz.size))) (fun hS => ?_)
                  clear hK K
                  try simp only [List.getElem_toArray, List.getElem_cons_zero, List.getElem_cons_succ, Act.put, List.setIfInBounds_toArray, List.set_cons_zero, List.set_cons_succ]
                  refine wpAnyH_ready (rs := [34]) (by kernel_rfl) (by simp) (AllReadyH.cons rfl (fun K hK => ?_) AllReadyH.nil)
                  go_simp
                  refine hK _ _ hS (fun hS => ?_)
                  clear hK K
                  try simp only [List.getElem_toArray, List.getElem_cons_zero, List.getElem_cons_succ, Act.put, List.setIfInBounds_toArray, List.set_cons_zero, List.set_cons_succ]
                  refine wpAnyH_done (by kernel_rfl) ?_ _
                  have hD := row_new hz.size hx (xm_i64 (x - 1)) B1 B2 B3 B4
                  go_wp2_with fail
                  go_meet
                  exact ⟨_, hD, hz.trans (((Below.refl _ _).alloc (Nat.le_refl _) _).mono hz.size)⟩
                · go_simp
                  have hn : Below wz.heap.size wz (wz.alloc (.cells #[.int .u8 6, .int .u8 7, .int .u8 8] 5)) := (Below.refl _ _).alloc (Nat.le_refl _) _
                  have hz' := hz.trans (hn.mono hz.size)
                  have B4 : Bk (wz.alloc (.cells #[.int .u8 6, .int .u8 7, .int .u8 8] 5)) wz.heap.size 5 [.int .u8 6, .int .u8 7, .int .u8 8] := Bk.new wz 5 [.int .u8 6, .int .u8 7, .int .u8 8]
                  refine hK _ _ (hBc _ hz') (fun hS => ?_)
                  clear hK K
                  try have B1 := B1.below hn B1.lt
                  try have B2 := B2.below hn B2.lt
                  try have B3 := B3.below hn B3.lt
                  have hz := hz'
                  clear hz' hn
                  generalize (wz.alloc (.cells #[.int .u8 6, .int .u8 7, .int .u8 8] 5)) = wz at *
                  try simp only [List.getElem_toArray, List.getElem_cons_zero, List.getElem_cons_succ, Act.put, List.setIfInBounds_toArray, List.set_cons_zero, List.set_cons_succ]
                  refine wpAnyH_take (i := 18) (v := ?_) rfl (by kernel_rfl) (by kernel_rfl) (by kernel_rfl) (fun _ _ _ h => h) (Or.inl ⟨by rfl, ?_⟩) hS ?_
                  rotate_left 1
                  · intro w' hSw
                    go_simp <;> with_reducible rfl
                  try simp only [List.getElem_toArray, List.getElem_cons_zero, List.getElem_cons_succ, Act.put, List.setIfInBounds_toArray, List.set_cons_zero, List.set_cons_succ]
                  refine wpAnyH_ready (rs := [0]) (by kernel_rfl) (by simp) (AllReadyH.cons rfl (fun K hK => ?_) AllReadyH.nil)
                  go_simp
                  have hn : Below wz.heap.size wz (wz.alloc (.cells #[.int .u8 1, .int .u8 2] 5)) := (Below.refl _ _).alloc (Nat.le_refl _) _
                  have hz' := hz.trans (hn.mono hz.size)
                  have B1 : Bk (wz.alloc (.cells #[.int .u8 1, .int .u8 2] 5)) wz.heap.size 5 [.int .u8 1, .int .u8 2] := Bk.new wz 5 [.int .u8 1, .int .u8 2]
                  refine hK _ _ (hBc _ hz') (fun hS => ?_)
                  clear hK K
                  try have B2 := B2.below hn B2.lt
                  try have B3 := B3.below hn B3.lt
                  try have B4 := B4.below hn B4.lt
                  have hz := hz'
                  clear hz' hn
                  generalize (wz.alloc (.cells #[.int .u8 1, .int .u8 2] 5)) = wz at *
                  try simp only [List.getElem_toArray, List.getElem_cons_zero, List.getElem_cons_succ, Act.put, List.setIfInBounds_toArray, List.set_cons_zero, List.set_cons_succ]
                  refine wpAnyH_take (i := 1) (v := ?_) rfl (by kernel_rfl) (by kernel_rfl) (by kernel_rfl) (fun _ _ _ h => h) (Or.inl ⟨by rfl, ?_⟩) hS ?_
                  rotate_left 1
                  · intro w' hSw
                    go_simp <;> with_reducible rfl
                  try simp only [List.getElem_toArray, List.getElem_cons_zero, List.getElem_cons_succ, Act.put, List.setIfInBounds_toArray, List.set_cons_zero, List.set_cons_succ]
                  refine wpAnyH_ready (rs := [33]) (by kernel_rfl) (by simp) (AllReadyH.cons rfl (fun K hK => ?_) AllReadyH.nil)
                  go_simp
                  refine hK _ _ (hBc _ (hz.trans (((Below.refl _ _).alloc (Nat.le_refl _) _).mono hz.size))) (fun hS => ?_)
                  clear hK K
                  try simp only [List.getElem_toArray, List.getElem_cons_zero, List.getElem_cons_succ, Act.put, List.setIfInBounds_toArray, List.set_cons_zero, List.set_cons_succ]
                  refine wpAnyH_ready (rs := [34]) (by kernel_rfl) (by simp) (AllReadyH.cons rfl (fun K hK => ?_) AllReadyH.nil)
                  go_simp
                  refine hK _ _ hS (fun hS => ?_)
                  clear hK K
                  try simp only [List.getElem_toArray, List.getElem_cons_zero, List.getElem_cons_succ, Act.put, List.setIfInBounds_toArray, List.set_cons_zero, List.set_cons_succ]
                  refine wpAnyH_done (by kernel_rfl) ?_ _
                  have hD := row_new hz.size hx (xm_i64 (x - 1)) B1 B2 B3 B4
                  go_wp2_with fail
                  go_meet
                  exact ⟨_, hD, hz.trans (((Below.refl _ _).alloc (Nat.le_refl _) _).mono hz.size)⟩
              · go_simp
                have hn : Below wz.heap.size wz (wz.alloc (.cells #[.int .u8 6, .int .u8 7, .int .u8 8] 5)) := (Below.refl _ _).alloc (Nat.le_refl _) _
                have hz' := hz.trans (hn.mono hz.size)
                have B4 : Bk (wz.alloc (.cells #[.int .u8 6, .int .u8 7, .int .u8 8] 5)) wz.heap.size 5 [.int .u8 6, .int .u8 7, .int .u8 8] := Bk.new wz 5 [.int .u8 6, .int .u8 7, .int .u8 8]
                refine hK _ _ (hBc _ hz') (fun hS => ?_)
                clear hK K
                try have B1 := B1.below hn B1.lt
                try have B2 := B2.below hn B2.lt
                try have B3 := B3.below hn B3.lt
                have hz := hz'
                clear hz' hn
                generalize (wz.alloc (.cells #[.int .u8 6, .int .u8 7, .int .u8 8] 5)) = wz at *
                try simp only [List.getElem_toArray, List.getElem_cons_zero, List.getElem_cons_succ, Act.put, List.setIfInBounds_toArray, List.set_cons_zero, List.set_cons_succ]
                refine wpAnyH_take (i := 18) (v := ?_) rfl (by kernel_rfl) (by kernel_rfl) (by kernel_rfl) (fun _ _ _ h => h) (Or.inl ⟨by rfl, ?_⟩) hS ?_
                rotate_left 1
                · intro w' hSw
                  go_simp <;> with_reducible rfl
                try simp only [List.getElem_toArray, List.getElem_cons_zero, List.getElem_cons_succ, Act.put, List.setIfInBounds_toArray, List.set_cons_zero, List.set_cons_succ]
                refine wpAnyH_ready (rs := [0, 3]) (by kernel_rfl) (by simp) (AllReadyH.cons rfl (fun K hK => ?_) (AllReadyH.cons rfl (fun K hK => ?_) AllReadyH.nil))
                · go_simp
                  have hn : Below wz.heap.size wz (wz.alloc (.cells #[.int .u8 1, .int .u8 2] 5)) := (Below.refl _ _).alloc (Nat.le_refl _) _
                  have hz' := hz.trans (hn.mono hz.size)
                  have B1 : Bk (wz.alloc (.cells #[.int .u8 1, .int .u8 2] 5)) wz.heap.size 5 [.int .u8 1, .int .u8 2] := Bk.new wz 5 [.int .u8 1, .int .u8 2]
                  refine hK _ _ (hBc _ hz') (fun hS => ?_)
                  clear hK K
                  try have B2 := B2.below hn B2.lt
                  try have B3 := B3.below hn B3.lt
                  try have B4 := B4.below hn B4.lt
                  have hz := hz'
                  clear hz' hn
                  generalize (wz.alloc (.cells #[.int .u8 1, .int .u8 2] 5)) = wz at *
                  try simp only [List.getElem_toArray, List.getElem_cons_zero, List.getElem_cons_succ, Act.put, List.setIfInBounds_toArray, List.set_cons_zero, List.set_cons_succ]
                  refine wpAnyH_take (i := 1) (v := ?_) rfl (by kernel_rfl) (by kernel_rfl) (by kernel_rfl) (fun _ _ _ h => h) (Or.inl ⟨by rfl, ?_⟩) hS ?_
                  rotate_left 1
                  · intro w' hSw
                    go_simp <;> with_reducible rfl
                  try simp only [List.getElem_toArray, List.getElem_cons_zero, List.getElem_cons_succ, Act.put, List.setIfInBounds_toArray, List.set_cons_zero, List.set_cons_succ]
                  refine wpAnyH_ready (rs := [3]) (by kernel_rfl) (by simp) (AllReadyH.cons rfl (fun K hK => ?_) AllReadyH.nil)
                  go_simp
                  have hn : Below wz.heap.size wz (wz.alloc (.cells #[.int .u8 3, .int .u8 4] 5)) := (Below.refl _ _).alloc (Nat.le_refl _) _
                  have hz' := hz.trans (hn.mono hz.size)
                  have B2 : Bk (wz.alloc (.cells #[.int .u8 3, .int .u8 4] 5)) wz.heap.size 5 [.int .u8 3, .int .u8 4] := Bk.new wz 5 [.int .u8 3, .int .u8 4]
                  refine hK _ _ (hBc _ hz') (fun hS => ?_)
                  clear hK K
                  try have B1 := B1.below hn B1.lt
                  try have B3 := B3.below hn B3.lt
                  try have B4 := B4.below hn B4.lt
                  have hz := hz'
                  clear hz' hn
                  generalize (wz.alloc (.cells #[.int .u8 3, .int .u8 4] 5)) = wz at *
                  try simp only [List.getElem_toArray, List.getElem_cons_zero, List.getElem_cons_succ, Act.put, List.setIfInBounds_toArray, List.set_cons_zero, List.set_cons_succ]
                  refine wpAnyH_take (i := 4) (v := ?_) rfl (by kernel_rfl) (by kernel_rfl) (by kernel_rfl) (fun _ _ _ h => h) (Or.inl ⟨by rfl, ?_⟩) hS ?_
                  rotate_left 1
                  · intro w' hSw
                    go_simp <;> with_reducible rfl
                  try simp only [List.getElem_toArray, List.getElem_cons_zero, List.getElem_cons_succ, Act.put, List.setIfInBounds_toArray, List.set_cons_zero, List.set_cons_succ]
                  refine wpAnyH_ready (rs := [33]) (by kernel_rfl) (by simp) (AllReadyH.cons rfl (fun K hK => ?_) AllReadyH.nil)
                  go_simp
                  refine hK _ _ (hBc _ (hz.trans (((Below.refl _ _).alloc (Nat.le_refl _) _).mono hz.size))) (fun hS => ?_)
                  clear hK K
                  try simp only [List.getElem_toArray, List.getElem_cons_zero, List.getElem_cons_succ, Act.put, List.setIfInBounds_toArray, List.set_cons_zero, List.set_cons_succ]
                  refine wpAnyH_ready (rs := [34]) (by kernel_rfl) (by simp) (AllReadyH.cons rfl (fun K hK => ?_) AllReadyH.nil)
                  go_simp
                  refine hK _ _ hS (fun hS => ?_)
                  clear hK K
                  try simp only [List.getElem_toArray, List.getElem_cons_zero, List.getElem_cons_succ, Act.put, List.setIfInBounds_toArray, List.set_cons_zero, List.set_cons_succ]
                  refine wpAnyH_done (by kernel_rfl) ?_ _
                  have hD := row_new hz.size hx (xm_i64 (x - 1)) B1 B2 B3 B4
                  go_wp2_with fail
                  go_meet
                  exact ⟨_, hD, hz.trans (((Below.refl _ _).alloc (Nat.le_refl _) _).mono hz.size)⟩
                · go_simp
                  have hn : Below wz.heap.size wz (wz.alloc (.cells #[.int .u8 3, .int .u8 4] 5)) := (Below.refl _ _).alloc (Nat.le_refl _) _
                  have hz' := hz.trans (hn.mono hz.size)
                  have B2 : Bk (wz.alloc (.cells #[.int .u8 3, .int .u8 4] 5)) wz.heap.size 5 [.int .u8 3, .int .u8 4] := Bk.new wz 5 [.int .u8 3, .int .u8 4]
                  refine hK _ _ (hBc _ hz') (fun hS => ?_)
                  clear hK K
                  try have B1 := B1.below hn B1.lt
                  try have B3 := B3.below hn B3.lt
                  try have B4 := B4.below hn B4.lt
                  have hz := hz'
                  clear hz' hn
                  generalize (wz.alloc (.cells #[.int .u8 3, .int .u8 4] 5)) = wz at *
                  try simp only [List.getElem_toArray, List.getElem_cons_zero, List.getElem_cons_succ, Act.put, List.setIfInBounds_toArray, List.set_cons_zero, List.set_cons_succ]
                  refine wpAnyH_take (i := 4) (v := ?_) rfl (by kernel_rfl) (by kernel_rfl) (by kernel_rfl) (fun _ _ _ h => h) (Or.inl ⟨by rfl, ?_⟩) hS ?_
                  rotate_left 1
                  · intro w' hSw
                    go_simp <;> with_reducible rfl
                  try simp only [List.getElem_toArray, List.getElem_cons_zero, List.getElem_cons_succ, Act.put, List.setIfInBounds_toArray, List.set_cons_zero, List.set_cons_succ]
                  refine wpAnyH_ready (rs := [0]) (by kernel_rfl) (by simp) (AllReadyH.cons rfl (fun K hK => ?_) AllReadyH.nil)
                  go_simp
                  have hn : Below wz.heap.size wz (wz.alloc (.cells #[.int .u8 1, .int .u8 2] 5)) := (Below.refl _ _).alloc (Nat.le_refl _) _
                  have hz' := hz.trans (hn.mono hz.size)
                  have B1 : Bk (wz.alloc (.cells #[.int .u8 1, .int .u8 2] 5)) wz.heap.size 5 [.int .u8 1, .int .u8 2] := Bk.new wz 5 [.int .u8 1, .int .u8 2]
                  refine hK _ _ (hBc _ hz') (fun hS => ?_)
                  clear hK K
                  try have B2 := B2.below hn B2.lt
                  try have B3 := B3.below hn B3.lt
                  try have B4 := B4.below hn B4.lt
                  have hz := hz'
                  clear hz' hn
                  generalize (wz.alloc (.cells #[.int .u8 1, .int .u8 2] 5)) = wz at *
                  try simp only [List.getElem_toArray, List.getElem_cons_zero, List.getElem_cons_succ, Act.put, List.setIfInBounds_toArray, List.set_cons_zero, List.set_cons_succ]
                  refine wpAnyH_take (i := 1) (v := ?_) rfl (by kernel_rfl) (by kernel_rfl) (by kernel_rfl) (fun _ _ _ h => h) (Or.inl ⟨by rfl, ?_⟩) hS ?_
                  rotate_left 1
                  · intro w' hSw
                    go_simp <;> with_reducible rfl
                  try simp only [List.getElem_toArray, List.getElem_cons_zero, List.getElem_cons_succ, Act.put, List.setIfInBounds_toArray, List.set_cons_zero, List.set_cons_succ]
                  refine wpAnyH_ready (rs := [33]) (by kernel_rfl) (by simp) (AllReadyH.cons rfl (fun K hK => ?_) AllReadyH.nil)
                  go_simp
                  refine hK _ _ (hBc _ (hz.trans (((Below.refl _ _).alloc (Nat.le_refl _) _).mono hz.size))) (fun hS => ?_)
                  clear hK K
                  try simp only [List.getElem_toArray, List.getElem_cons_zero, List.getElem_cons_succ, Act.put, List.setIfInBounds_toArray, List.set_cons_zero, List.set_cons_succ]
                  refine wpAnyH_ready (rs := [34]) (by kernel_rfl) (by simp) (AllReadyH.cons rfl (fun K hK => ?_) AllReadyH.nil)
                  go_simp
                  refine hK _ _ hS (fun hS => ?_)
                  clear hK K
                  try simp only [List.getElem_toArray, List.getElem_cons_zero, List.getElem_cons_succ, Act.put, List.setIfInBounds_toArray, List.set_cons_zero, List.set_cons_succ]
                  refine wpAnyH_done (by kernel_rfl) ?_ _
                  have hD := row_new hz.size hx (xm_i64 (x - 1)) B1 B2 B3 B4
                  go_wp2_with fail
                  go_meet
                  exact ⟨_, hD, hz.trans (((Below.refl _ _).alloc (Nat.le_refl _) _).mono hz.size)⟩
            · go_simp
              have hn : Below wz.heap.size wz (wz.alloc (.cells #[.int .u8 6, .int .u8 7, .int .u8 8] 5)) := (Below.refl _ _).alloc (Nat.le_refl _) _
              have hz' := hz.trans (hn.mono hz.size)
              have B4 : Bk (wz.alloc (.cells #[.int .u8 6, .int .u8 7, .int .u8 8] 5)) wz.heap.size 5 [.int .u8 6, .int .u8 7, .int .u8 8] := Bk.new wz 5 [.int .u8 6, .int .u8 7, .int .u8 8]
              refine hK _ _ (hBc _ hz') (fun hS => ?_)
              clear hK K
              try have B1 := B1.below hn B1.lt
              try have B2 := B2.below hn B2.lt
              try have B3 := B3.below hn B3.lt
              have hz := hz'
              clear hz' hn
              generalize (wz.alloc (.cells #[.int .u8 6, .int .u8 7, .int .u8 8] 5)) = wz at *
              try simp only [List.getElem_toArray, List.getElem_cons_zero, List.getElem_cons_succ, Act.put, List.setIfInBounds_toArray, List.set_cons_zero, List.set_cons_succ]
              refine wpAnyH_take (i := 18) (v := ?_) rfl (by kernel_rfl) (by kernel_rfl) (by kernel_rfl) (fun _ _ _ h => h) (Or.inl ⟨by rfl, ?_⟩) hS ?_
              rotate_left 1
              · intro w' hSw
                go_simp <;> with_reducible rfl
              try simp only [List.getElem_toArray, List.getElem_cons_zero, List.getElem_cons_succ, Act.put, List.setIfInBounds_toArray, List.set_cons_zero, List.set_cons_succ]
              refine wpAnyH_ready (rs := [0, 3, 10]) (by kernel_rfl) (by simp) (AllReadyH.cons rfl (fun K hK => ?_) (AllReadyH.cons rfl (fun K hK => ?_) (AllReadyH.cons rfl (fun K hK => ?_) AllReadyH.nil)))
              · go_simp
                have hn : Below wz.heap.size wz (wz.alloc (.cells #[.int .u8 1, .int .u8 2] 5)) := (Below.refl _ _).alloc (Nat.le_refl _) _
                have hz' := hz.trans (hn.mono hz.size)
                have B1 : Bk (wz.alloc (.cells #[.int .u8 1, .int .u8 2] 5)) wz.heap.size 5 [.int .u8 1, .int .u8 2] := Bk.new wz 5 [.int .u8 1, .int .u8 2]
                refine hK _ _ (hBc _ hz') (fun hS => ?_)
                clear hK K
                try have B2 := B2.below hn B2.lt
                try have B3 := B3.below hn B3.lt
                try have B4 := B4.below hn B4.lt
                have hz := hz'
                clear hz' hn
                generalize (wz.alloc (.cells #[.int .u8 1, .int .u8 2] 5)) = wz at *
                try simp only [List.getElem_toArray, List.getElem_cons_zero, List.getElem_cons_succ, Act.put, List.setIfInBounds_toArray, List.set_cons_zero, List.set_cons_succ]
                refine wpAnyH_take (i := 1) (v := ?_) rfl (by kernel_rfl) (by kernel_rfl) (by kernel_rfl) (fun _ _ _ h => h) (Or.inl ⟨by rfl, ?_⟩) hS ?_
                rotate_left 1
                · intro w' hSw
                  go_simp <;> with_reducible rfl
                try simp only [List.getElem_toArray, List.getElem_cons_zero, List.getElem_cons_succ, Act.put, List.setIfInBounds_toArray, List.set_cons_zero, List.set_cons_succ]
                refine wpAnyH_ready (rs := [3, 10]) (by kernel_rfl) (by simp) (AllReadyH.cons rfl (fun K hK => ?_) (AllReadyH.cons rfl (fun K hK => ?_) AllReadyH.nil))
                · go_simp
                  have hn : Below wz.heap.size wz (wz.alloc (.cells #[.int .u8 3, .int .u8 4] 5)) := (Below.refl _ _).alloc (Nat.le_refl _) _
                  have hz' := hz.trans (hn.mono hz.size)
                  have B2 : Bk (wz.alloc (.cells #[.int .u8 3, .int .u8 4] 5)) wz.heap.size 5 [.int .u8 3, .int .u8 4] := Bk.new wz 5 [.int .u8 3, .int .u8 4]
                  refine hK _ _ (hBc _ hz') (fun hS => ?_)
                  clear hK K
                  try have B1 := B1.below hn B1.lt
                  try have B3 := B3.below hn B3.lt
                  try have B4 := B4.below hn B4.lt
                  have hz := hz'
                  clear hz' hn
                  generalize (wz.alloc (.cells #[.int .u8 3, .int .u8 4] 5)) = wz at *
                  try simp only [List.getElem_toArray, List.getElem_cons_zero, List.getElem_cons_succ, Act.put, List.setIfInBounds_toArray, List.set_cons_zero, List.set_cons_succ]
                  refine wpAnyH_take (i := 4) (v := ?_) rfl (by kernel_rfl) (by kernel_rfl) (by kernel_rfl) (fun _ _ _ h => h) (Or.inl ⟨by rfl, ?_⟩) hS ?_
                  rotate_left 1
                  · intro w' hSw
                    go_simp <;> with_reducible rfl
                  try simp only [List.getElem_toArray, List.getElem_cons_zero, List.getElem_cons_succ, Act.put, List.setIfInBounds_toArray, List.set_cons_zero, List.set_cons_succ]
                  refine wpAnyH_ready (rs := [10]) (by kernel_rfl) (by simp) (AllReadyH.cons rfl (fun K hK => ?_) AllReadyH.nil)
                  go_simp
                  have hn : Below wz.heap.size wz (wz.alloc (.cells #[.int .u8 5] 5)) := (Below.refl _ _).alloc (Nat.le_refl _) _
                  have hz' := hz.trans (hn.mono hz.size)
                  have B3 : Bk (wz.alloc (.cells #[.int .u8 5] 5)) wz.heap.size 5 [.int .u8 5] := Bk.new wz 5 [.int .u8 5]
                  refine hK _ _ (hBc _ hz') (fun hS => ?_)
                  clear hK K
                  try have B1 := B1.below hn B1.lt
                  try have B2 := B2.below hn B2.lt
                  try have B4 := B4.below hn B4.lt
                  have hz := hz'
                  clear hz' hn
                  generalize (wz.alloc (.cells #[.int .u8 5] 5)) = wz at *
                  try simp only [List.getElem_toArray, List.getElem_cons_zero, List.getElem_cons_succ, Act.put, List.setIfInBounds_toArray, List.set_cons_zero, List.set_cons_succ]
                  refine wpAnyH_take (i := 11) (v := ?_) rfl (by kernel_rfl) (by kernel_rfl) (by kernel_rfl) (fun _ _ _ h => h) (Or.inl ⟨by rfl, ?_⟩) hS ?_
                  rotate_left 1
                  · intro w' hSw
                    go_simp <;> with_reducible rfl
                  try simp only [List.getElem_toArray, List.getElem_cons_zero, List.getElem_cons_succ, Act.put, List.setIfInBounds_toArray, List.set_cons_zero, List.set_cons_succ]
                  refine wpAnyH_ready (rs := [33]) (by kernel_rfl) (by simp) (AllReadyH.cons rfl (fun K hK => ?_) AllReadyH.nil)
                  go_simp
                  refine hK _ _ (hBc _ (hz.trans (((Below.refl _ _).alloc (Nat.le_refl _) _).mono hz.size))) (fun hS => ?_)
                  clear hK K
                  try simp only [List.getElem_toArray, List.getElem_cons_zero, List.getElem_cons_succ, Act.put, List.setIfInBounds_toArray, List.set_cons_zero, List.set_cons_succ]
                  refine wpAnyH_ready (rs := [34]) (by kernel_rfl) (by simp) (AllReadyH.cons rfl (fun K hK => ?_) AllReadyH.nil)
                  go_simp
                  refine hK _ _ hS (fun hS => ?_)
                  clear hK K
                  try simp only [List.getElem_toArray, List.getElem_cons_zero, List.getElem_cons_succ, Act.put, List.setIfInBounds_toArray, List.set_cons_zero, List.set_cons_succ]
                  refine wpAnyH_done (by kernel_rfl) ?_ _
                  have hD := row_new hz.size hx (xm_i64 (x - 1)) B1 B2 B3 B4
                  go_wp2_with fail
                  go_meet
                  exact ⟨_, hD, hz.trans (((Below.refl _ _).alloc (Nat.le_refl _) _).mono hz.size)⟩
                · go_simp
                  have hn : Below wz.heap.size wz (wz.alloc (.cells #[.int .u8 5] 5)) := (Below.refl _ _).alloc (Nat.le_refl _) _
                  have hz' := hz.trans (hn.mono hz.size)
                  have B3 : Bk (wz.alloc (.cells #[.int .u8 5] 5)) wz.heap.size 5 [.int .u8 5] := Bk.new wz 5 [.int .u8 5]
                  refine hK _ _ (hBc _ hz') (fun hS => ?_)
                  clear hK K
                  try have B1 := B1.below hn B1.lt
                  try have B2 := B2.below hn B2.lt
                  try have B4 := B4.below hn B4.lt
                  have hz := hz'
                  clear hz' hn
                  generalize (wz.alloc (.cells #[.int .u8 5] 5)) = wz at *
                  try simp only [List.getElem_toArray, List.getElem_cons_zero, List.getElem_cons_succ, Act.put, List.setIfInBounds_toArray, List.set_cons_zero, List.set_cons_succ]
                  refine wpAnyH_take (i := 11) (v := ?_) rfl (by kernel_rfl) (by kernel_rfl) (by kernel_rfl) (fun _ _ _ h => h) (Or.inl ⟨by rfl, ?_⟩) hS ?_
                  rotate_left 1
                  · intro w' hSw
                    go_simp <;> with_reducible rfl
                  try simp only [List.getElem_toArray, List.getElem_cons_zero, List.getElem_cons_succ, Act.put, List.setIfInBounds_toArray, List.set_cons_zero, List.set_cons_succ]
                  refine wpAnyH_ready (rs := [3]) (by kernel_rfl) (by simp) (AllReadyH.cons rfl (fun K hK => ?_) AllReadyH.nil)
                  go_simp
                  have hn : Below wz.heap.size wz (wz.alloc (.cells #[.int .u8 3, .int .u8 4] 5)) := (Below.refl _ _).alloc (Nat.le_refl _) _
                  have hz' := hz.trans (hn.mono hz.size)
                  have B2 : Bk (wz.alloc (.cells #[.int .u8 3, .int .u8 4] 5)) wz.heap.size 5 [.int .u8 3, .int .u8 4] := Bk.new wz 5 [.int .u8 3, .int .u8 4]
                  refine hK _ _ (hBc _ hz') (fun hS => ?_)
                  clear hK K
                  try have B1 := B1.below hn B1.lt
                  try have B3 := B3.below hn B3.lt
                  try have B4 := B4.below hn B4.lt
                  have hz := hz'
                  clear hz' hn
                  generalize (wz.alloc (.cells #[.int .u8 3, .int .u8 4] 5)) = wz at *
                  try simp only [List.getElem_toArray, List.getElem_cons_zero, List.getElem_cons_succ, Act.put, List.setIfInBounds_toArray, List.set_cons_zero, List.set_cons_succ]
                  refine wpAnyH_take (i := 4) (v := ?_) rfl (by kernel_rfl) (by kernel_rfl) (by kernel_rfl) (fun _ _ _ h => h) (Or.inl ⟨by rfl, ?_⟩) hS ?_
                  rotate_left 1
                  · intro w' hSw
                    go_simp <;> with_reducible rfl
                  try simp only [List.getElem_toArray, List.getElem_cons_zero, List.getElem_cons_succ, Act.put, List.setIfInBounds_toArray, List.set_cons_zero, List.set_cons_succ]
                  refine wpAnyH_ready (rs := [33]) (by kernel_rfl) (by simp) (AllReadyH.cons rfl (fun K hK => ?_) AllReadyH.nil)
                  go_simp
                  refine hK _ _ (hBc _ (hz.trans (((Below.refl _ _).alloc (Nat.le_refl _) _).mono hz.size))) (fun hS => ?_)
                  clear hK K
                  try simp only [List.getElem_toArray, List.getElem_cons_zero, List.getElem_cons_succ, Act.put, List.setIfInBounds_toArray, List.set_cons_zero, List.set_cons_succ]
                  refine wpAnyH_ready (rs := [34]) (by kernel_rfl) (by simp) (AllReadyH.cons rfl (fun K hK => ?_) AllReadyH.nil)
                  go_simp
                  refine hK _ _ hS (fun hS => ?_)
                  clear hK K
                  try simp only [List.getElem_toArray, List.getElem_cons_zero, List.getElem_cons_succ, Act.put, List.setIfInBounds_toArray, List.set_cons_zero, List.set_cons_succ]
                  refine wpAnyH_done (by kernel_rfl) ?_ _
                  have hD := row_new hz.size hx (xm_i64 (x - 1)) B1 B2 B3 B4
                  go_wp2_with fail
                  go_meet
                  exact ⟨_, hD, hz.trans (((Below.refl _ _).alloc (Nat.le_refl _) _).mono hz.size)⟩
              · go_simp
                have hn : Below wz.heap.size wz (wz.alloc (.cells #[.int .u8 3, .int .u8 4] 5)) := (Below.refl _ _).alloc (Nat.le_refl _) _
                have hz' := hz.trans (hn.mono hz.size)
                have B2 : Bk (wz.alloc (.cells #[.int .u8 3, .int .u8 4] 5)) wz.heap.size 5 [.int .u8 3, .int .u8 4] := Bk.new wz 5 [.int .u8 3, .int .u8 4]
                refine hK _ _ (hBc _ hz') (fun hS => ?_)
                clear hK K
                try have B1 := B1.below hn B1.lt
                try have B3 := B3.below hn B3.lt
                try have B4 := B4.below hn B4.lt
                have hz := hz'
                clear hz' hn
                generalize (wz.alloc (.cells #[.int .u8 3, .int .u8 4] 5)) = wz at *
                try simp only [List.getElem_toArray, List.getElem_cons_zero, List.getElem_cons_succ, Act.put, List.setIfInBounds_toArray, List.set_cons_zero, List.set_cons_succ]
                refine wpAnyH_take (i := 4) (v := ?_) rfl (by kernel_rfl) (by kernel_rfl) (by kernel_rfl) (fun _ _ _ h => h) (Or.inl ⟨by rfl, ?_⟩) hS ?_
                rotate_left 1
                · intro w' hSw
                  go_simp <;> with_reducible rfl
                try simp only [List.getElem_toArray, List.getElem_cons_zero, List.getElem_cons_succ, Act.put, List.setIfInBounds_toArray, List.set_cons_zero, List.set_cons_succ]
                refine wpAnyH_ready (rs := [0, 10]) (by kernel_rfl) (by simp) (AllReadyH.cons rfl (fun K hK => ?_) (AllReadyH.cons rfl (fun K hK => ?_) AllReadyH.nil))
                · go_simp
                  have hn : Below wz.heap.size wz (wz.alloc (.cells #[.int .u8 1, .int .u8 2] 5)) := (Below.refl _ _).alloc (Nat.le_refl _) _
                  have hz' := hz.trans (hn.mono hz.size)
                  have B1 : Bk (wz.alloc (.cells #[.int .u8 1, .int .u8 2] 5)) wz.heap.size 5 [.int .u8 1, .int .u8 2] := Bk.new wz 5 [.int .u8 1, .int .u8 2]
                  refine hK _ _ (hBc _ hz') (fun hS => ?_)
                  clear hK K
                  try have B2 := B2.below hn B2.lt
                  try have B3 := B3.below hn B3.lt
                  try have B4 := B4.below hn B4.lt
                  have hz := hz'
                  clear hz' hn
                  generalize (wz.alloc (.cells #[.int .u8 1, .int .u8 2] 5)) = wz at *
                  try simp only [List.getElem_toArray, List.getElem_cons_zero, List.getElem_cons_succ, Act.put, List.setIfInBounds_toArray, List.set_cons_zero, List.set_cons_succ]
                  refine wpAnyH_take (i := 1) (v := ?_) rfl (by kernel_rfl) (by kernel_rfl) (by kernel_rfl) (fun _ _ _ h => h) (Or.inl ⟨by rfl, ?_⟩) hS ?_
                  rotate_left 1
                  · intro w' hSw
                    go_simp <;> with_reducible rfl
                  try simp only [List.getElem_toArray, List.getElem_cons_zero, List.getElem_cons_succ, Act.put, List.setIfInBounds_toArray, List.set_cons_zero, List.set_cons_succ]
                  refine wpAnyH_ready (rs := [10]) (by kernel_rfl) (by simp) (AllReadyH.cons rfl (fun K hK => ?_) AllReadyH.nil)
                  go_simp
                  have hn : Below wz.heap.size wz (wz.alloc (.cells #[.int .u8 5] 5)) := (Below.refl _ _).alloc (Nat.le_refl _) _
                  have hz' := hz.trans (hn.mono hz.size)
                  have B3 : Bk (wz.alloc (.cells #[.int .u8 5] 5)) wz.heap.size 5 [.int .u8 5] := Bk.new wz 5 [.int .u8 5]
                  refine hK _ _ (hBc _ hz') (fun hS => ?_)
                  clear hK K
                  try have B1 := B1.below hn B1.lt
                  try have B2 := B2.below hn B2.lt
                  try have B4 := B4.below hn B4.lt
                  have hz := hz'
                  clear hz' hn
                  generalize (wz.alloc (.cells #[.int .u8 5] 5)) = wz at *
                  try simp only [List.getElem_toArray, List.getElem_cons_zero, List.getElem_cons_succ, Act.put, List.setIfInBounds_toArray, List.set_cons_zero, List.set_cons_succ]
                  refine wpAnyH_take (i := 11) (v := ?_) rfl (by kernel_rfl) (by kernel_rfl) (by kernel_rfl) (fun _ _ _ h => h) (Or.inl ⟨by rfl, ?_⟩) hS ?_
                  rotate_left 1
                  · intro w' hSw
                    go_simp <;> with_reducible rfl
                  try simp only [List.getElem_toArray, List.getElem_cons_zero, List.getElem_cons_succ, Act.put, List.setIfInBounds_toArray, List.set_cons_zero, List.set_cons_succ]
                  refine wpAnyH_ready (rs := [33]) (by kernel_rfl) (by simp) (AllReadyH.cons rfl (fun K hK => ?_) AllReadyH.nil)
                  go_simp
                  refine hK _ _ (hBc _ (hz.trans (((Below.refl _ _).alloc (Nat.le_refl _) _).mono hz.size))) (fun hS => ?_)
                  clear hK K
                  try simp only [List.getElem_toArray, List.getElem_cons_zero, List.getElem_cons_succ, Act.put, List.setIfInBounds_toArray, List.set_cons_zero, List.set_cons_succ]
                  refine wpAnyH_ready (rs := [34]) (by kernel_rfl) (by simp) (AllReadyH.cons rfl (fun K hK => ?_) AllReadyH.nil)
                  go_simp
                  refine hK _ _ hS (fun hS => ?_)
                  clear hK K
                  try simp only [List.getElem_toArray, List.getElem_cons_zero, List.getElem_cons_succ, Act.put, List.setIfInBounds_toArray, List.set_cons_zero, List.set_cons_succ]
                  refine wpAnyH_done (by kernel_rfl) ?_ _
                  have hD := row_new hz.size hx (xm_i64 (x - 1)) B1 B2 B3 B4
                  go_wp2_with fail
                  go_meet
                  exact ⟨_, hD, hz.trans (((Below.refl _ _).alloc (Nat.le_refl _) _).mono hz.size)⟩
                · go_simp
                  have hn : Below wz.heap.size wz (wz.alloc (.cells #[.int .u8 5] 5)) := (Below.refl _ _).alloc (Nat.le_refl _) _
                  have hz' := hz.trans (hn.mono hz.size)
                  have B3 : Bk (wz.alloc (.cells #[.int .u8 5] 5)) wz.heap.size 5 [.int .u8 5] := Bk.new wz 5 [.int .u8 5]
                  refine hK _ _ (hBc _ hz') (fun hS => ?_)
                  clear hK K
                  try have B1 := B1.below hn B1.lt
                  try have B2 := B2.below hn B2.lt
                  try have B4 := B4.below hn B4.lt
                  have hz := hz'
                  clear hz' hn
                  generalize (wz.alloc (.cells #[.int .u8 5] 5)) = wz at *
                  try simp only [List.getElem_toArray, List.getElem_cons_zero, List.getElem_cons_succ, Act.put, List.setIfInBounds_toArray, List.set_cons_zero, List.set_cons_succ]
                  refine wpAnyH_take (i := 11) (v := ?_) rfl (by kernel_rfl) (by kernel_rfl) (by kernel_rfl) (fun _ _ _ h => h) (Or.inl ⟨by rfl, ?_⟩) hS ?_
                  rotate_left 1
                  · intro w' hSw
                    go_simp <;> with_reducible rfl
                  try simp only [List.getElem_toArray, List.getElem_cons_zero, List.getElem_cons_succ, Act.put, List.setIfInBounds_toArray, List.set_cons_zero, List.set_cons_succ]
                  refine wpAnyH_ready (rs := [0]) (by kernel_rfl) (by simp) (AllReadyH.cons rfl (fun K hK => ?_) AllReadyH.nil)
                  go_simp
                  have hn : Below wz.heap.size wz (wz.alloc (.cells #[.int .u8 1, .int .u8 2] 5)) := (Below.refl _ _).alloc (Nat.le_refl _) _
                  have hz' := hz.trans (hn.mono hz.size)
                  have B1 : Bk (wz.alloc (.cells #[.int .u8 1, .int .u8 2] 5)) wz.heap.size 5 [.int .u8 1, .int .u8 2] := Bk.new wz 5 [.int .u8 1, .int .u8 2]
                  refine hK _ _ (hBc _ hz') (fun hS => ?_)
                  clear hK K
                  try have B2 := B2.below hn B2.lt
                  try have B3 := B3.below hn B3.lt
                  try have B4 := B4.below hn B4.lt
                  have hz := hz'
                  clear hz' hn
                  generalize (wz.alloc (.cells #[.int .u8 1, .int .u8 2] 5)) = wz at *
                  try simp only [List.getElem_toArray, List.getElem_cons_zero, List.getElem_cons_succ, Act.put, List.setIfInBounds_toArray, List.set_cons_zero, List.set_cons_succ]
                  refine wpAnyH_take (i := 1) (v := ?_) rfl (by kernel_rfl) (by kernel_rfl) (by kernel_rfl) (fun _ _ _ h => h) (Or.inl ⟨by rfl, ?_⟩) hS ?_
                  rotate_left 1
                  · intro w' hSw
                    go_simp <;> with_reducible rfl
                  try simp only [List.getElem_toArray, List.getElem_cons_zero, List.getElem_cons_succ, Act.put, List.setIfInBounds_toArray, List.set_cons_zero, List.set_cons_succ]
                  refine wpAnyH_ready (rs := [33]) (by kernel_rfl) (by simp) (AllReadyH.cons rfl (fun K hK => ?_) AllReadyH.nil)
                  go_simp
                  refine hK _ _ (hBc _ (hz.trans (((Below.refl _ _).alloc (Nat.le_refl _) _).mono hz.size))) (fun hS => ?_)
                  clear hK K
                  try simp only [List.getElem_toArray, List.getElem_cons_zero, List.getElem_cons_succ, Act.put, List.setIfInBounds_toArray, List.set_cons_zero, List.set_cons_succ]
                  refine wpAnyH_ready (rs := [34]) (by kernel_rfl) (by simp) (AllReadyH.cons rfl (fun K hK => ?_) AllReadyH.nil)
                  go_simp
                  refine hK _ _ hS (fun hS => ?_)
                  clear hK K
                  try simp only [List.getElem_toArray, List.getElem_cons_zero, List.getElem_cons_succ, Act.put, List.setIfInBounds_toArray, List.set_cons_zero, List.set_cons_succ]
                  refine wpAnyH_done (by kernel_rfl) ?_ _
                  have hD := row_new hz.size hx (xm_i64 (x - 1)) B1 B2 B3 B4
                  go_wp2_with fail
                  go_meet
                  exact ⟨_, hD, hz.trans (((Below.refl _ _).alloc (Nat.le_refl _) _).mono hz.size)⟩
              · go_simp
                have hn : Below wz.heap.size wz (wz.alloc (.cells #[.int .u8 5] 5)) := (Below.refl _ _).alloc (Nat.le_refl _) _
                have hz' := hz.trans (hn.mono hz.size)
                have B3 : Bk (wz.alloc (.cells #[.int .u8 5] 5)) wz.heap.size 5 [.int .u8 5] := Bk.new wz 5 [.int .u8 5]
                refine hK _ _ (hBc _ hz') (fun hS => ?_)
                clear hK K
                try have B1 := B1.below hn B1.lt
                try have B2 := B2.below hn B2.lt
                try have B4 := B4.below hn B4.lt
                have hz := hz'
                clear hz' hn
                generalize (wz.alloc (.cells #[.int .u8 5] 5)) = wz at *
                try simp only [List.getElem_toArray, List.getElem_cons_zero, List.getElem_cons_succ, Act.put, List.setIfInBounds_toArray, List.set_cons_zero, List.set_cons_succ]
                refine wpAnyH_take (i := 11) (v := ?_) rfl (by kernel_rfl) (by kernel_rfl) (by kernel_rfl) (fun _ _ _ h => h) (Or.inl ⟨by rfl, ?_⟩) hS ?_
                rotate_left 1
                · intro w' hSw
                  go_simp <;> with_reducible rfl
                try simp only [List.getElem_toArray, List.getElem_cons_zero, List.getElem_cons_succ, Act.put, List.setIfInBounds_toArray, List.set_cons_zero, List.set_cons_succ]
                refine wpAnyH_ready (rs := [0, 3]) (by kernel_rfl) (by simp) (AllReadyH.cons rfl (fun K hK => ?_) (AllReadyH.cons rfl (fun K hK => ?_) AllReadyH.nil))
                · go_simp
                  have hn : Below wz.heap.size wz (wz.alloc (.cells #[.int .u8 1, .int .u8 2] 5)) := (Below.refl _ _).alloc (Nat.le_refl _) _
                  have hz' := hz.trans (hn.mono hz.size)
                  have B1 : Bk (wz.alloc (.cells #[.int .u8 1, .int .u8 2] 5)) wz.heap.size 5 [.int .u8 1, .int .u8 2] := Bk.new wz 5 [.int .u8 1, .int .u8 2]
                  refine hK _ _ (hBc _ hz') (fun hS => ?_)
                  clear hK K
                  try have B2 := B2.below hn B2.lt
                  try have B3 := B3.below hn B3.lt
                  try have B4 := B4.below hn B4.lt
                  have hz := hz'
                  clear hz' hn
                  generalize (wz.alloc (.cells #[.int .u8 1, .int .u8 2] 5)) = wz at *
                  try simp only [List.getElem_toArray, List.getElem_cons_zero, List.getElem_cons_succ, Act.put, List.setIfInBounds_toArray, List.set_cons_zero, List.set_cons_succ]
                  refine wpAnyH_take (i := 1) (v := ?_) rfl (by kernel_rfl) (by kernel_rfl) (by kernel_rfl) (fun _ _ _ h => h) (Or.inl ⟨by rfl, ?_⟩) hS ?_
                  rotate_left 1
                  · intro w' hSw
                    go_simp <;> with_reducible rfl
                  try simp only [List.getElem_toArray, List.getElem_cons_zero, List.getElem_cons_succ, Act.put, List.setIfInBounds_toArray, List.set_cons_zero, List.set_cons_succ]
                  refine wpAnyH_ready (rs := [3]) (by kernel_rfl) (by simp) (AllReadyH.cons rfl (fun K hK => ?_) AllReadyH.nil)
                  go_simp
                  have hn : Below wz.heap.size wz (wz.alloc (.cells #[.int .u8 3, .int .u8 4] 5)) := (Below.refl _ _).alloc (Nat.le_refl _) _
                  have hz' := hz.trans (hn.mono hz.size)
                  have B2 : Bk (wz.alloc (.cells #[.int .u8 3, .int .u8 4] 5)) wz.heap.size 5 [.int .u8 3, .int .u8 4] := Bk.new wz 5 [.int .u8 3, .int .u8 4]
                  refine hK _ _ (hBc _ hz') (fun hS => ?_)
                  clear hK K
                  try have B1 := B1.below hn B1.lt
                  try have B3 := B3.below hn B3.lt
                  try have B4 := B4.below hn B4.lt
                  have hz := hz'
                  clear hz' hn
                  generalize (wz.alloc (.cells #[.int .u8 3, .int .u8 4] 5)) = wz at *
                  try simp only [List.getElem_toArray, List.getElem_cons_zero, List.getElem_cons_succ, Act.put, List.setIfInBounds_toArray, List.set_cons_zero, List.set_cons_succ]
                  refine wpAnyH_take (i := 4) (v := ?_) rfl (by kernel_rfl) (by kernel_rfl) (by kernel_rfl) (fun _ _ _ h => h) (Or.inl ⟨by rfl, ?_⟩) hS ?_
                  rotate_left 1
                  · intro w' hSw
                    go_simp <;> with_reducible rfl
                  try simp only [List.getElem_toArray, List.getElem_cons_zero, List.getElem_cons_succ, Act.put, List.setIfInBounds_toArray, List.set_cons_zero, List.set_cons_succ]
                  refine wpAnyH_ready (rs := [33]) (by kernel_rfl) (by simp) (AllReadyH.cons rfl (fun K hK => ?_) AllReadyH.nil)
                  go_simp
                  refine hK _ _ (hBc _ (hz.trans (((Below.refl _ _).alloc (Nat.le_refl _) _).mono hz.size))) (fun hS => ?_)
                  clear hK K
                  try simp only [List.getElem_toArray, List.getElem_cons_zero, List.getElem_cons_succ, Act.put, List.setIfInBounds_toArray, List.set_cons_zero, List.set_cons_succ]
                  refine wpAnyH_ready (rs := [34]) (by kernel_rfl) (by simp) (AllReadyH.cons rfl (fun K hK => ?_) AllReadyH.nil)
                  go_simp
                  refine hK _ _ hS (fun hS => ?_)
                  clear hK K
                  try simp only [List.getElem_toArray, List.getElem_cons_zero, List.getElem_cons_succ, Act.put, List.setIfInBounds_toArray, List.set_cons_zero, List.set_cons_succ]
                  refine wpAnyH_done (by kernel_rfl) ?_ _
                  have hD := row_new hz.size hx (xm_i64 (x - 1)) B1 B2 B3 B4
                  go_wp2_with fail
                  go_meet
                  exact ⟨_, hD, hz.trans (((Below.refl _ _).alloc (Nat.le_refl _) _).mono hz.size)⟩
                · go_simp
                  have hn : Below wz.heap.size wz (wz.alloc (.cells #[.int .u8 3, .int .u8 4] 5)) := (Below.refl _ _).alloc (Nat.le_refl _) _
                  have hz' := hz.trans (hn.mono hz.size)
                  have B2 : Bk (wz.alloc (.cells #[.int .u8 3, .int .u8 4] 5)) wz.heap.size 5 [.int .u8 3, .int .u8 4] := Bk.new wz 5 [.int .u8 3, .int .u8 4]
                  refine hK _ _ (hBc _ hz') (fun hS => ?_)
                  clear hK K
                  try have B1 := B1.below hn B1.lt
                  try have B3 := B3.below hn B3.lt
                  try have B4 := B4.below hn B4.lt
                  have hz := hz'
                  clear hz' hn
                  generalize (wz.alloc (.cells #[.int .u8 3, .int .u8 4] 5)) = wz at *
                  try simp only [List.getElem_toArray, List.getElem_cons_zero, List.getElem_cons_succ, Act.put, List.setIfInBounds_toArray, List.set_cons_zero, List.set_cons_succ]
                  refine wpAnyH_take (i := 4) (v := ?_) rfl (by kernel_rfl) (by kernel_rfl) (by kernel_rfl) (fun _ _ _ h => h) (Or.inl ⟨by rfl, ?_⟩) hS ?_
                  rotate_left 1
                  · intro w' hSw
                    go_simp <;> with_reducible rfl
                  try simp only [List.getElem_toArray, List.getElem_cons_zero, List.getElem_cons_succ, Act.put, List.setIfInBounds_toArray, List.set_cons_zero, List.set_cons_succ]
                  refine wpAnyH_ready (rs := [0]) (by kernel_rfl) (by simp) (AllReadyH.cons rfl (fun K hK => ?_) AllReadyH.nil)
                  go_simp
                  have hn : Below wz.heap.size wz (wz.alloc (.cells #[.int .u8 1, .int .u8 2] 5)) := (Below.refl _ _).alloc (Nat.le_refl _) _
                  have hz' := hz.trans (hn.mono hz.size)
                  have B1 : Bk (wz.alloc (.cells #[.int .u8 1, .int .u8 2] 5)) wz.heap.size 5 [.int .u8 1, .int .u8 2] := Bk.new wz 5 [.int .u8 1, .int .u8 2]
                  refine hK _ _ (hBc _ hz') (fun hS => ?_)
                  clear hK K
                  try have B2 := B2.below hn B2.lt
                  try have B3 := B3.below hn B3.lt
                  try have B4 := B4.below hn B4.lt
                  have hz := hz'
                  clear hz' hn
                  generalize (wz.alloc (.cells #[.int .u8 1, .int .u8 2] 5)) = wz at *
                  try simp only [List.getElem_toArray, List.getElem_cons_zero, List.getElem_cons_succ, Act.put, List.setIfInBounds_toArray, List.set_cons_zero, List.set_cons_succ]
                  refine wpAnyH_take (i := 1) (v := ?_) rfl (by kernel_rfl) (by kernel_rfl) (by kernel_rfl) (fun _ _ _ h => h) (Or.inl ⟨by rfl, ?_⟩) hS ?_
                  rotate_left 1
                  · intro w' hSw
                    go_simp <;> with_reducible rfl
                  try simp only [List.getElem_toArray, List.getElem_cons_zero, List.getElem_cons_succ, Act.put, List.setIfInBounds_toArray, List.set_cons_zero, List.set_cons_succ]
                  refine wpAnyH_ready (rs := [33]) (by kernel_rfl) (by simp) (AllReadyH.cons rfl (fun K hK => ?_) AllReadyH.nil)
                  go_simp
                  refine hK _ _ (hBc _ (hz.trans (((Below.refl _ _).alloc (Nat.le_refl _) _).mono hz.size))) (fun hS => ?_)
                  clear hK K
                  try simp only [List.getElem_toArray, List.getElem_cons_zero, List.getElem_cons_succ, Act.put, List.setIfInBounds_toArray, List.set_cons_zero, List.set_cons_succ]
                  refine wpAnyH_ready (rs := [34]) (by kernel_rfl) (by simp) (AllReadyH.cons rfl (fun K hK => ?_) AllReadyH.nil)
                  go_simp
                  refine hK _ _ hS (fun hS => ?_)
                  clear hK K
                  try simp only [List.getElem_toArray, List.getElem_cons_zero, List.getElem_cons_succ, Act.put, List.setIfInBounds_toArray, List.set_cons_zero, List.set_cons_succ]
                  refine wpAnyH_done (by kernel_rfl) ?_ _
                  have hD := row_new hz.size hx (xm_i64 (x - 1)) B1 B2 B3 B4
                  go_wp2_with fail
                  go_meet
                  exact ⟨_, hD, hz.trans (((Below.refl _ _).alloc (Nat.le_refl _) _).mono hz.size)⟩
          case rest =>
            obtain ⟨es, hD, hb1⟩ := hcut
            have hbw := hb.trans (hb1.mono hb.size)
            have hBc : ∀ W', Below wr.heap.size wr W' → W'.cell? ⟨gN, i, none⟩ = some (.int .i64 x) := fun W' h => (World.cell?_of_block (h.block gN HN.out.lt)).trans cx
            have HD := Lib.hid hD
            obtain ⟨A, c, rfl⟩ := owns_form hD.row
            have hz0 := hb1.drew
            have hzz := (Below.refl wc.heap.size wc).drew
            clear hD cx
            go_wp2_with fail
            refine wp_region_held_drew (S := fun W' => W'.cell? ⟨gN, i, none⟩ = some (.int .i64 x)) (by kernel_rfl) (hBc _ hz0) (fun hS => ?_)
            refine wpAnyH_norm 25 (Array.replicate 25 false) rfl rfl ?_
            refine wpAnyH_take (i := 0) (v := ?_) rfl (by kernel_rfl) (by kernel_rfl) (by kernel_rfl) (fun _ _ _ h => h) (Or.inl ⟨by rfl, ?_⟩) hS ?_
            rotate_left 1
            · intro w' hSw
              go_simp <;> with_reducible rfl
            try simp only [List.getElem_toArray, List.getElem_cons_zero, List.getElem_cons_succ, Act.put, List.setIfInBounds_toArray, List.set_cons_zero, List.set_cons_succ]
            refine wpAnyH_take (i := 1) (v := ?_) rfl (by kernel_rfl) (by kernel_rfl) (by kernel_rfl) (fun _ _ _ h => h) (Or.inl ⟨by rfl, ?_⟩) hS ?_
            rotate_left 1
            · intro w' hSw
              go_simp <;> with_reducible rfl
            try simp only [List.getElem_toArray, List.getElem_cons_zero, List.getElem_cons_succ, Act.put, List.setIfInBounds_toArray, List.set_cons_zero, List.set_cons_succ]
            refine wpAnyH_take (i := 2) (v := ?_) rfl (by kernel_rfl) (by kernel_rfl) (by kernel_rfl) (fun _ _ _ h => h) (Or.inl ⟨by rfl, ?_⟩) hS ?_
            rotate_left 1
            · intro w' hSw
              go_simp <;> with_reducible rfl
            try simp only [List.getElem_toArray, List.getElem_cons_zero, List.getElem_cons_succ, Act.put, List.setIfInBounds_toArray, List.set_cons_zero, List.set_cons_succ]
            refine wpAnyH_take (i := 3) (v := ?_) rfl (by kernel_rfl) (by kernel_rfl) (by kernel_rfl) (fun _ _ _ h => h) (Or.inl ⟨by rfl, ?_⟩) hS ?_
            rotate_left 1
            · intro w' hSw
              go_simp <;> with_reducible rfl
            try simp only [List.getElem_toArray, List.getElem_cons_zero, List.getElem_cons_succ, Act.put, List.setIfInBounds_toArray, List.set_cons_zero, List.set_cons_succ]
            refine wpAnyH_take (i := 4) (v := ?_) rfl (by kernel_rfl) (by kernel_rfl) (by kernel_rfl) (fun _ _ _ h => h) (Or.inl ⟨by rfl, ?_⟩) hS ?_
            rotate_left 1
            · intro w' hSw
              go_simp <;> with_reducible rfl
            try simp only [List.getElem_toArray, List.getElem_cons_zero, List.getElem_cons_succ, Act.put, List.setIfInBounds_toArray, List.set_cons_zero, List.set_cons_succ]
            refine wpAnyH_take (i := 5) (v := ?_) rfl (by kernel_rfl) (by kernel_rfl) (by kernel_rfl) (fun _ _ _ h => h) (Or.inl ⟨by rfl, ?_⟩) hS ?_
            rotate_left 1
            · intro w' hSw
              go_simp <;> with_reducible rfl
            try simp only [List.getElem_toArray, List.getElem_cons_zero, List.getElem_cons_succ, Act.put, List.setIfInBounds_toArray, List.set_cons_zero, List.set_cons_succ]
            refine wpAnyH_take (i := 6) (v := ?_) rfl (by kernel_rfl) (by kernel_rfl) (by kernel_rfl) (fun _ _ _ h => h) (Or.inl ⟨by rfl, ?_⟩) hS ?_
            rotate_left 1
            · intro w' hSw
              go_simp <;> with_reducible rfl
            try simp only [List.getElem_toArray, List.getElem_cons_zero, List.getElem_cons_succ, Act.put, List.setIfInBounds_toArray, List.set_cons_zero, List.set_cons_succ]
            refine wpAnyH_take (i := 7) (v := ?_) rfl (by kernel_rfl) (by kernel_rfl) (by kernel_rfl) (fun _ _ _ h => h) (Or.inl ⟨by rfl, ?_⟩) hS ?_
            rotate_left 1
            · intro w' hSw
              go_simp <;> with_reducible rfl
            try simp only [List.getElem_toArray, List.getElem_cons_zero, List.getElem_cons_succ, Act.put, List.setIfInBounds_toArray, List.set_cons_zero, List.set_cons_succ]
            refine wpAnyH_take (i := 8) (v := ?_) rfl (by kernel_rfl) (by kernel_rfl) (by kernel_rfl) (fun _ _ _ h => h) (Or.inl ⟨by rfl, ?_⟩) hS ?_
            rotate_left 1
            · intro w' hSw
              go_simp <;> with_reducible rfl
            try simp only [List.getElem_toArray, List.getElem_cons_zero, List.getElem_cons_succ, Act.put, List.setIfInBounds_toArray, List.set_cons_zero, List.set_cons_succ]
            refine wpAnyH_ready (rs := [9]) (by kernel_rfl) (by simp) (AllReadyH.cons rfl (fun K hK => ?_) AllReadyH.nil)
            go_simp
            (with_reducible refine (dol_lives (HD.out.below hzz) x x).mono ?_)
            rintro _ w2 ⟨rfl, hb2⟩
            have hb2 := hzz.trans (hb2.mono hzz.size)
            have hb2' := hb1.trans (hb2.mono hb1.size)
            go_simp
            refine hK _ _ (hBc _ hb2') (fun hS => ?_)
            clear hK K
            try simp only [List.getElem_toArray, List.getElem_cons_zero, List.getElem_cons_succ, Act.put, List.setIfInBounds_toArray, List.set_cons_zero, List.set_cons_succ]
            refine wpAnyH_take (i := 10) (v := ?_) rfl (by kernel_rfl) (by kernel_rfl) (by kernel_rfl) (fun _ _ _ h => h) (Or.inl ⟨by rfl, ?_⟩) hS ?_
            rotate_left 1
            · intro w' hSw
              go_simp <;> with_reducible rfl
            try simp only [List.getElem_toArray, List.getElem_cons_zero, List.getElem_cons_succ, Act.put, List.setIfInBounds_toArray, List.set_cons_zero, List.set_cons_succ]
            refine wpAnyH_take (i := 11) (v := ?_) rfl (by kernel_rfl) (by kernel_rfl) (by kernel_rfl) (fun _ _ _ h => h) (Or.inl ⟨by rfl, ?_⟩) hS ?_
            rotate_left 1
            · intro w' hSw
              go_simp <;> with_reducible rfl
            try simp only [List.getElem_toArray, List.getElem_cons_zero, List.getElem_cons_succ, Act.put, List.setIfInBounds_toArray, List.set_cons_zero, List.set_cons_succ]
            refine wpAnyH_take (i := 12) (v := ?_) rfl (by kernel_rfl) (by kernel_rfl) (by kernel_rfl) (fun _ _ _ h => h) (Or.inl ⟨by go_simp, ?_⟩) hS ?_
            rotate_left 1
            · intro w' hSw
              go_simp <;> with_reducible rfl
            try simp only [List.getElem_toArray, List.getElem_cons_zero, List.getElem_cons_succ, Act.put, List.setIfInBounds_toArray, List.set_cons_zero, List.set_cons_succ]
            refine wpAnyH_take (i := 13) (v := ?_) rfl (by kernel_rfl) (by kernel_rfl) (by kernel_rfl) (fun _ _ _ h => h) (Or.inl ⟨by go_simp, ?_⟩) hS ?_
            rotate_left 1
            · intro w' hSw
              go_simp <;> with_reducible rfl
            try simp only [List.getElem_toArray, List.getElem_cons_zero, List.getElem_cons_succ, Act.put, List.setIfInBounds_toArray, List.set_cons_zero, List.set_cons_succ]
            refine wpAnyH_take (i := 14) (v := ?_) rfl (by kernel_rfl) (by kernel_rfl) (by kernel_rfl) (fun _ _ _ h => h) (Or.inl ⟨by go_simp, ?_⟩) hS ?_
            rotate_left 1
            · intro w' hSw
              go_simp <;> with_reducible rfl
            try simp only [List.getElem_toArray, List.getElem_cons_zero, List.getElem_cons_succ, Act.put, List.setIfInBounds_toArray, List.set_cons_zero, List.set_cons_succ]
            refine wpAnyH_take (i := 15) (v := ?_) rfl (by kernel_rfl) (by kernel_rfl) (by kernel_rfl) (fun _ _ _ h => h) (Or.inl ⟨by go_simp, ?_⟩) hS ?_
            rotate_left 1
            · intro w' hSw
              go_simp <;> with_reducible rfl
            try simp only [List.getElem_toArray, List.getElem_cons_zero, List.getElem_cons_succ, Act.put, List.setIfInBounds_toArray, List.set_cons_zero, List.set_cons_succ]
            refine wpAnyH_take (i := 16) (v := ?_) rfl (by kernel_rfl) (by kernel_rfl) (by kernel_rfl) (fun _ _ _ h => h) (Or.inl ⟨by go_simp, ?_⟩) hS ?_
            rotate_left 1
            · intro w' hSw
              go_simp <;> with_reducible rfl
            try simp only [List.getElem_toArray, List.getElem_cons_zero, List.getElem_cons_succ, Act.put, List.setIfInBounds_toArray, List.set_cons_zero, List.set_cons_succ]
            refine wpAnyH_ready (rs := [17]) (by kernel_rfl) (by simp) (AllReadyH.cons rfl (fun K hK => ?_) AllReadyH.nil)
            go_simp
            (with_reducible refine (dol_lives (HD.out.below hb2) 100 x).mono ?_)
            rintro _ w3 ⟨rfl, hb3⟩
            have hb3 := hb2.trans (hb3.mono hb2.size)
            have hb3' := hb1.trans (hb3.mono hb1.size)
            go_simp
            refine hK _ _ (hBc _ hb3') (fun hS => ?_)
            clear hK K
            try simp only [List.getElem_toArray, List.getElem_cons_zero, List.getElem_cons_succ, Act.put, List.setIfInBounds_toArray, List.set_cons_zero, List.set_cons_succ]
            refine wpAnyH_take (i := 18) (v := ?_) rfl (by kernel_rfl) (by kernel_rfl) (by kernel_rfl) (fun _ _ _ h => h) (Or.inl ⟨by go_simp, ?_⟩) hS ?_
            rotate_left 1
            · intro w' hSw
              go_simp <;> with_reducible rfl
            try simp only [List.getElem_toArray, List.getElem_cons_zero, List.getElem_cons_succ, Act.put, List.setIfInBounds_toArray, List.set_cons_zero, List.set_cons_succ]
            refine wpAnyH_take (i := 19) (v := ?_) rfl (by kernel_rfl) (by kernel_rfl) (by kernel_rfl) (fun _ _ _ h => h) (Or.inl ⟨by rfl, ?_⟩) hS ?_
            rotate_left 1
            · intro w' hSw
              go_simp <;> with_reducible rfl
            try simp only [List.getElem_toArray, List.getElem_cons_zero, List.getElem_cons_succ, Act.put, List.setIfInBounds_toArray, List.set_cons_zero, List.set_cons_succ]
            refine wpAnyH_take (i := 20) (v := ?_) rfl (by kernel_rfl) (by kernel_rfl) (by kernel_rfl) (fun _ _ _ h => h) (Or.inl ⟨by rfl, ?_⟩) hS ?_
            rotate_left 1
            · intro w' hSw
              go_simp <;> with_reducible rfl
            try simp only [List.getElem_toArray, List.getElem_cons_zero, List.getElem_cons_succ, Act.put, List.setIfInBounds_toArray, List.set_cons_zero, List.set_cons_succ]
            refine wpAnyH_take (i := 21) (v := ?_) rfl (by kernel_rfl) (by kernel_rfl) (by kernel_rfl) (fun _ _ _ h => h) (Or.inl ⟨by go_simp, ?_⟩) hS ?_
            rotate_left 1
            · intro w' hSw
              go_simp <;> with_reducible rfl
            try simp only [List.getElem_toArray, List.getElem_cons_zero, List.getElem_cons_succ, Act.put, List.setIfInBounds_toArray, List.set_cons_zero, List.set_cons_succ]
            refine wpAnyH_ready (rs := [22]) (by kernel_rfl) (by simp) (AllReadyH.cons rfl (fun K hK => ?_) AllReadyH.nil)
            go_simp
            (with_reducible refine (dol_lives (HD.out.below hb3) 6 0).mono ?_)
            rintro _ w4 ⟨rfl, hb4⟩
            have hb4 := hb1.trans ((hb3.trans (hb4.mono hb3.size)).mono hb1.size)
            go_simp
            refine hK _ _ (hBc _ hb4) (fun hS => ?_)
            clear hK K
            try simp only [List.getElem_toArray, List.getElem_cons_zero, List.getElem_cons_succ, Act.put, List.setIfInBounds_toArray, List.set_cons_zero, List.set_cons_succ]
            refine wpAnyH_take (i := 23) (v := ?_) rfl (by kernel_rfl) (by kernel_rfl) (by kernel_rfl) (fun _ _ _ h => h) (Or.inl ⟨by go_simp, ?_⟩) hS ?_
            rotate_left 1
            · intro w' hSw
              go_simp <;> with_reducible rfl
            try simp only [List.getElem_toArray, List.getElem_cons_zero, List.getElem_cons_succ, Act.put, List.setIfInBounds_toArray, List.set_cons_zero, List.set_cons_succ]
            refine wpAnyH_take (i := 24) (v := ?_) rfl (by kernel_rfl) (by kernel_rfl) (by kernel_rfl) (fun _ _ _ h => h) (Or.inl ⟨by rfl, ?_⟩) hS ?_
            rotate_left 1
            · intro w' hSw
              go_simp <;> with_reducible rfl
            try simp only [List.getElem_toArray, List.getElem_cons_zero, List.getElem_cons_succ, Act.put, List.setIfInBounds_toArray, List.set_cons_zero, List.set_cons_succ]
            refine wpAnyH_done (by kernel_rfl) ?_ _
            go_wp2_with fail
            go_roundw
            case rel => exact ⟨i + 1, by omega, by go_num, (hb4.block gN HN.out.lt).trans HN.out, hb.trans (hb4.mono hb.size)⟩
            case measure => simp [intOf]; omega
        · have d1 : decide ((i : Int) < 9) = false := decide_eq_false (by omega)
          clear hN
          go_wp2_with fail
          go_loopw [5] (fun i wx => ∃ k : Nat, k ≤ 27 ∧ i = .int .i64 k ∧ Below w.heap.size w wx) (fun i _ => 27 - (intOf i).toNat)
          case atStart => exact ⟨0, by omega, rfl, hb⟩
          case round =>
            clear hb
            obtain ⟨i, hi, rfl, hb⟩ := hrel
            by_cases hlt : i < 27
            · have d1 : decide ((i : Int) < 27) = true := decide_eq_true (by omega)
              go_wp2_with fail
              refine (rep_any ⟨#[97]⟩ rfl i (by omega) _).mono ?_
              rintro _ w1 ⟨l1, hl1, rfl, hb1⟩
              have hb2 := hb.trans (hb1.mono hb.size)
              go_wp2_with fail
              refine (rep_any ⟨#[97]⟩ rfl i (by omega) _).mono ?_
              rintro _ w2 ⟨l2, hl2, rfl, hb3⟩
              have B1 : Bk (w1.alloc (.cells #[.int .u8 1] 5)) w1.heap.size 5 [.int .u8 1] := Bk.new w1 _ _
              have hb4 := hb2.alloc hb2.size (.cells #[.int .u8 1] 5)
              have B2 := B1.below hb3 B1.lt
              have hb5 := hb4.trans (hb3.mono hb4.size)
              clear B1 hb4 hb3 hb1
              have hcon := rep_any ⟨#[98]⟩ rfl (26 - i) (by omega) w2
              rw [show ((26 - i : Nat) : Int) = 26 - (i : Int) by omega] at hcon
              go_wp2_with fail
              (with_reducible refine hcon.mono ?_)
              rintro _ w3 ⟨l3, hl3, rfl, hb6⟩
              have B3 := B2.below hb6 B2.lt
              have hb7 := hb5.trans (hb6.mono hb5.size)
              clear hcon B2 hb5 hb6
              have hD := two_new (n0 := w3.heap.size) (Nat.le_refl _) hl1 hl2 hl3 B3
              have hb8 := hb7.alloc hb7.size (.cells (esC [eB l1 w1.heap.size [1], eN 5 l2 l3 0]).toArray 31)
              have hcon := dol_lives hD 9 1
              clear hD B3 hb7
              go_wp2_with fail
              refine hcon.mono ?_
              rintro _ w4 ⟨rfl, hb9⟩
              have hb10 := hb8.trans (hb9.mono hb8.size)
              clear hcon hb8 hb9
              go_wp2_with fail
              go_roundw
              case rel => exact ⟨i + 1, by omega, by go_num, hb10⟩
              case measure => simp [intOf]; omega
            · have d1 : decide ((i : Int) < 27) = false := decide_eq_false (by omega)
              go_wp2_with fail
              refine (op_new 16777216 wr).mono ?_
              rintro _ w1 ⟨D, rfl, ⟨B, hB, hD1⟩, b1⟩
              rw [show max (16777216 : Int) 0 = 16777216 from rfl] at hD1
              have hb1 := hb.trans (b1.mono hb.size)
              have HB : Hid (∀ j, B j → w.heap.size ≤ j) := Lib.hid (fun j q => Nat.le_trans hb.size (hB j q))
              clear hB hb b1
              obtain ⟨i0, hi0, hz0, hz1, hz2⟩ := info_parts infoU8
              have hw1 : w.heap.size ≤ w1.heap.size := hb1.size
              go_wp2_with (at_make; refine wpList_make_full _ rfl _ _ 29 rfl w1.heap.size 5 i0 (.int .u8 0) 1 Tryz.underlying29 hi0 hz0 hz1 _ _ _ _ 8388609 rfl rfl rfl rfl (by rw [hz2]; decide) (by decide) (Nat.le_refl _) ?_; intro wz hownz hgz)
              obtain ⟨p1, l1, r1⟩ := zeros_rd hownz 1 8388608 (by decide)
              obtain ⟨p2, l2, r2⟩ := zeros_rd hownz 0 1 (by decide)
              obtain ⟨p0, l0, r0⟩ := zeros_rd hownz 0 8388609 (by decide)
              have hgl : w1.heap.size < wz.heap.size := owns_lt hownz _ rfl
              have hbz : Below w1.heap.size w1 wz := (Below.refl _ _).grown hgz (Nat.le_refl _) (fun k e => by cases e)
              have hDz := hD1.below hbz
              have hbwz := hb1.trans (hbz.mono hw1)
              have HBl := Lib.hid (fun j (q : B j) => hD1.lt q)
              have HS0 := op_append hDz [97] (by decide) (r1 wz rfl _) (by rintro b rfl; exact hgl) (by rw [l1]; decide) (by decide) (c := 8388608)
              rw [(app1 l1).1, (app1 l1).2, l1] at HS0
              unfold nmV at HS0
              have HR2 := Lib.hid r2
              have HR0 := Lib.hid r0
              have HL := Lib.hid l1
              have HL2 := Lib.hid l2
              have HL0 := Lib.hid l0
              clear hownz hgz l1 r1 l0 r0 l2 r2 hbz hDz hD1 hb1
              go_wp2_with fail
              (with_reducible refine HS0.mono ?_)
              rintro _ w2 ⟨rfl, B2, k1, k2, k3⟩
              clear HS0
              have hg2 : w2.heap[w1.heap.size]? = wz.heap[w1.heap.size]? := k3.block _ hgl (fun q => by have := HBl.out _ q; omega)
              have hl2 : w1.heap.size < w2.heap.size := Nat.lt_of_lt_of_le hgl k3.size
              have hbw2 : Below w.heap.size w w2 := hbwz.trans (k3.below HB.out hbwz.size)
              have HB2 : Hid (∀ j, B2 j → w.heap.size ≤ j) := Lib.hid (fun j q => (k1 j q).elim (HB.out j) (fun q => Nat.le_trans hbwz.size q))
              have HX2 : Hid (∀ j, B2 j → j ≠ w1.heap.size) := Lib.hid (fun j q e => (k1 j q).elim (fun q => by have := HBl.out _ q; omega) (fun q => by omega))
              have HS1 := op_append k2 [97] (by decide) (K := fun b => b = w1.heap.size) (HR2.out w2 hg2 _) (by rintro b rfl; exact hl2) (by rw [HL2.out]; decide) (by decide) (c := 8388609)
              rw [(app2 HL.out HL2.out).1, (app2 HL.out HL2.out).2, HL2.out] at HS1
              unfold nmV at HS1
              clear k1 k2 k3 HB hbwz
              go_wp2_with fail
              (with_reducible refine HS1.mono ?_)
              rintro _ w3 ⟨rfl, B3, k1, k2, k3⟩
              clear HS1
              have hg3 : w3.heap[w1.heap.size]? = wz.heap[w1.heap.size]? := (k3.block _ hl2 (fun q => HX2.out _ q rfl)).trans hg2
              have hl3 : w1.heap.size < w3.heap.size := Nat.lt_of_lt_of_le hl2 k3.size
              have hbw3 : Below w.heap.size w w3 := hbw2.trans (k3.below HB2.out hbw2.size)
              have HB3 : Hid (∀ j, B3 j → w.heap.size ≤ j) := Lib.hid (fun j q => (k1 j q).elim (HB2.out j) (fun q => Nat.le_trans hbw2.size q))
              have HS2 := op_append k2 [98] (by decide) (K := fun b => b = w1.heap.size) (HR0.out w3 hg3 _) (by rintro b rfl; exact hl3) (by rw [HL0.out]; decide) (by decide) (c := 8388609)
              rw [(app3 HL0.out).1, (app3 HL0.out).2, HL0.out] at HS2
              unfold nmV at HS2
              clear k1 k2 k3 hbw2 HB2 HX2 hg2 hl2
              go_wp2_with fail
              (with_reducible refine HS2.mono ?_)
              rintro _ w4 ⟨rfl, B4, k1, k2, k3⟩
              clear HS2
              have hbw4 : Below w.heap.size w w4 := hbw3.trans (k3.below HB3.out hbw3.size)
              have HU := op_used k2
              rw [used_LL _ HL.out] at HU
              clear k1 k2 k3
              go_wp2_with fail
              (with_reducible refine HU.mono ?_)
              rintro _ w5 ⟨rfl, hb5⟩
              have hbw5 := hbw4.trans (hb5.mono hbw4.size)
              clear HU hb5
              go_wp2_with fail
              (with_reducible refine (lives_none w5).mono ?_)
              rintro _ w6 ⟨rfl, hb6⟩
              have hbw6 := hbw5.trans (hb6.mono hbw5.size)
              go_wp2_with fail
              (with_reducible refine (awake_any w6).mono ?_)
              rintro _ w7 ⟨rfl, hb7⟩
              go_wp2_with fail
              go_ret
              exact ⟨rfl, hbw6.trans (hb7.mono hbw6.size)⟩
end Go.Proofs.YtcmbeolicopicaaGreat

