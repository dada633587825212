/- text, the document's walk: bytes of words, signs, labels, registers, numbers. text, the document's walk: a number. text, the document's walk: a line's tokens, one by one. text, the document's walk: registers and numbers of a line. text, the document's walk: numbers of a line, with and without a sign. text, the document's walk: second parts, cells, and where a jump goes. text, the document's walk: where a jump goes, and cells. text, the document's walk: words of the language. text, the document's walk: sizes in words. -/
import Derived.Test.YtjebjninlejoeaaGreatDoorX4
import Derived.Test.YtjebjninlejoeaaGreatDoorZA
namespace Go.Proofs.YtjebjninlejoeaaGreatDoor
open Go.RowKit Go.Maps Go.ChangeMaps
set_option linter.unusedVariables false
set_option linter.unusedSimpArgs false
set_option linter.unusedSectionVars false
set_option maxRecDepth 100000

theorem wordy_any (c : UInt8) (w : World) : Calls Tryz.prog 142 #[.int .u8 (c.toNat : Int)] w fun e w' => e = .returned (.bool (wordC c)) ∧ w' = w := by
  have e1 : decide ((97 : Int) ≤ (c.toNat : Int)) = decide (97 ≤ c) := u8_le 97 c
  have e2 : decide ((c.toNat : Int) ≤ 122) = decide (c ≤ 122) := u8_le c 122
  have e3 : decide ((48 : Int) ≤ (c.toNat : Int)) = decide (48 ≤ c) := u8_le 48 c
  have e4 : decide ((c.toNat : Int) ≤ 57) = decide (c ≤ 57) := u8_le c 57
  have e5 : decide ((c.toNat : Int) = 95) = decide (c = 95) := by
    by_cases h : c = 95
    · subst h; rfl
    · have : ¬ ((c.toNat : Int) = 95) := fun e => h (UInt8.toNat.inj (by show c.toNat = 95; omega))
      simp [h, this]
  unfold wordC
  rw [← e1, ← e2, ← e3, ← e4, ← e5]
  clear e1 e2 e3 e4 e5
  generalize (c.toNat : Int) = x
  by_cases h1 : (97 : Int) ≤ x <;> by_cases h2 : x ≤ 122 <;> by_cases h3 : (48 : Int) ≤ x <;> by_cases h4 : x ≤ 57
  all_goals
    go_enter Tryz.func142, Tryz.ntmps142
    go_wp2_with fail
    go_ret
    refine ⟨?_, rfl⟩
    show Ending.returned (Value.bool _) = Ending.returned (Value.bool _)
    first
      | rfl
      | (congr 2
         rw [Bool.eq_iff_iff]
         simp [h1, h2, h3, h4]
         try omega)
theorem u8_eq (c : UInt8) (k : Nat) (hk : k < 256) : decide (c = UInt8.ofNat k) = decide ((c.toNat : Int) = k) := by
  by_cases h : c = UInt8.ofNat k
  · subst h
    simp
    omega
  · have : ¬ ((c.toNat : Int) = k) := fun e => h (UInt8.toNat.inj (by simp; omega))
    simp [h, this]
theorem signy_any (c : UInt8) (w : World) : Calls Tryz.prog 143 #[.int .u8 (c.toNat : Int)] w fun e w' => e = .returned (.bool (signC c)) ∧ w' = w := by
  have e : signC c = (decide ((c.toNat : Int) = 44) || decide ((c.toNat : Int) = 91) || decide ((c.toNat : Int) = 93) || decide ((c.toNat : Int) = 43) || decide ((c.toNat : Int) = 45) || decide ((c.toNat : Int) = 58)) := by
    unfold signC
    rw [show decide (c = 44) = decide ((c.toNat : Int) = 44) from u8_eq c 44 (by decide), show decide (c = 91) = decide ((c.toNat : Int) = 91) from u8_eq c 91 (by decide), show decide (c = 93) = decide ((c.toNat : Int) = 93) from u8_eq c 93 (by decide), show decide (c = 43) = decide ((c.toNat : Int) = 43) from u8_eq c 43 (by decide), show decide (c = 45) = decide ((c.toNat : Int) = 45) from u8_eq c 45 (by decide), show decide (c = 58) = decide ((c.toNat : Int) = 58) from u8_eq c 58 (by decide)]
  rw [e]
  clear e
  generalize (c.toNat : Int) = x
  go_enter Tryz.func143, Tryz.ntmps143
  go_wp2_with fail
  all_goals
    go_ret
    refine ⟨?_, rfl⟩
    show Ending.returned (Value.bool _) = Ending.returned (Value.bool _)
    congr 2
    first
      | (rw [Bool.eq_iff_iff]; simp; done)
      | (rw [Bool.eq_iff_iff]; simp; omega)
      | rfl
      | skip
theorem rlabel_any (s : Nm) (hs : s.length ≤ 1000000000) (w : World) : Calls Tryz.prog 73 #[.string ⟨s.toArray⟩] w fun e w' => e = .returned (.bool (labelP s)) ∧ w' = w := by
  cases s with
  | nil =>
    go_enter Tryz.func73, Tryz.ntmps73
    go_wp2_with fail
    go_ret
    exact ⟨rfl, rfl⟩
  | cons c t =>
    have hl : (c :: t).length = t.length + 1 := rfl
    have hx : ((⟨(c :: t).toArray⟩ : ByteArray).size : Int) = (t.length : Int) + 1 := by show (((c :: t).toArray.size : Nat) : Int) = _; simp
    have hi : ∀ w, (Instr.index 9 (.string ⟨(c :: t).toArray⟩) (.int .i64 0)).run Tryz.prog w = .ok (.int .u8 (c.toNat : Int)) w := fun w => by
      unfold Instr.index
      go_simp
      rfl
    unfold labelP
    simp only [← u8_le]
    rw [hl]
    have e3 : decide ((t.length : Int) + 1 ≤ 30) = decide (t.length + 1 ≤ 30) := by
      by_cases h : t.length + 1 ≤ 30
      · rw [decide_eq_true h, decide_eq_true (by omega)]
      · rw [decide_eq_false h, decide_eq_false (by omega)]
    have e4 : (((97 : UInt8).toNat : Nat) : Int) = 97 := rfl
    have e5 : (((122 : UInt8).toNat : Nat) : Int) = 122 := rfl
    have e6 : decide ((1 : Int) ≤ (t.length : Int) + 1) = true := decide_eq_true (by omega)
    rw [← e3, e4, e5]
    by_cases h1 : (t.length : Int) + 1 ≤ 30 <;> by_cases h2 : (97 : Int) ≤ (c.toNat : Int) <;> by_cases h3 : (c.toNat : Int) ≤ 122
    all_goals
      go_enter Tryz.func73, Tryz.ntmps73
      go_wp2_with fail
      go_ret
      refine ⟨?_, rfl⟩
      show Ending.returned (Value.bool _) = Ending.returned (Value.bool _)
      first
        | rfl
        | (congr 2
           rw [Bool.eq_iff_iff]
           simp [h1, h2, h3]
           try omega)
def regD (s : Nm) : Int := (regP s).getD 0
theorem rreg_any (s : Nm) (w : World) : Calls Tryz.prog 199 #[.string ⟨s.toArray⟩] w fun e w' => e = .returned (.tuple #[.int .i64 (regD s), .bool (regP s).isSome]) ∧ w' = w := by
  go_enter Tryz.func199, Tryz.ntmps199
  go_wp2_with fail
  go_loopw [4] (fun i wr => ∃ k : Nat, k ≤ 11 ∧ i = .int .i64 k ∧ wr = w ∧ ∀ j, j < k → regNs[j]? ≠ some s) (fun i _ => 11 - (intOf i).toNat)
  case atStart => exact ⟨0, by omega, rfl, rfl, fun j hj => by omega⟩
  case round =>
    obtain ⟨k, hk, rfl, rfl, hno⟩ := hrel
    by_cases hlt : k < 11
    · have d1 : decide ((k : Int) ≤ 10) = true := decide_eq_true (by omega)
      have hcon := Tryz.strconv_Itoa_small k (by omega) wr
      have hdl : (Lib.decDigits k).length ≤ 2 := by
        rw [Lib.decDigits_length]
        by_cases h : k < 10
        · rw [Lib.nDigits_small h]; omega
        · rw [Lib.nDigits_big h, Lib.nDigits_small (by omega)]; omega
      have q1 : ¬ 9223372036854775807 < 1 + (Lib.decDigits k).length := by omega
      have hc : ((⟨#[114]⟩ : ByteArray) ++ ⟨(Lib.decDigits k).toArray⟩).toList = 114 :: Lib.decDigits k := cat_list [114] _
      have hk2 := regN_at k hlt
      by_cases heq : s = 114 :: Lib.decDigits k
      · have hq : (s == 114 :: Lib.decDigits k) = true := by rw [heq]; simp
        have hR : regP s = some (k : Int) := regP_at hno (by rw [heq]; exact hk2)
        clear hno heq hk2
        go_wp2_with fail
        refine hcon.mono ?_
        rintro _ w1 ⟨rfl, rfl⟩
        go_wp2_with fail
        go_ret2
        exact ⟨by unfold regD; rw [hR]; rfl, rfl⟩
      · have hq : (s == 114 :: Lib.decDigits k) = false := by simpa using heq
        go_wp2_with fail
        refine hcon.mono ?_
        rintro _ w1 ⟨rfl, rfl⟩
        go_wp2_with fail
        go_roundw
        case rel =>
          refine ⟨k + 1, by omega, by go_num, by first | rfl | trivial, fun j hj => ?_⟩
          by_cases e : j = k
          · subst e; rw [hk2]; intro q; injection q with q; exact heq q.symm
          · exact hno j (by omega)
        case measure => simp [intOf]; omega
    · have d1 : decide ((k : Int) ≤ 10) = false := decide_eq_false (by omega)
      have hR : regP s = none := regP_no (fun j hj => hno j (by omega))
      clear hno
      go_wp2_with fail
      go_ret2
      exact ⟨by unfold regD; rw [hR]; rfl, rfl⟩
end Go.Proofs.YtjebjninlejoeaaGreatDoor
namespace Go.Proofs.YtjebjninlejoeaaGreatDoor
open Go.RowKit Go.Maps Go.ChangeMaps
set_option linter.unusedVariables false
set_option linter.unusedSimpArgs false
set_option linter.unusedSectionVars false
set_option maxRecDepth 100000

theorem digC_int (c : UInt8) : digitC c = (decide ((48 : Int) ≤ (c.toNat : Int)) && decide ((c.toNat : Int) ≤ 57)) := by
  unfold digitC
  rw [← u8_le, ← u8_le]
  rfl
set_option maxHeartbeats 4000000 in
theorem rnumber_any (s : Nm) (hs : s.length ≤ 1000000) (w : World) : Calls Tryz.prog 222 #[.string ⟨s.toArray⟩] w fun e w' => (∃ n : Int, e = .returned (.tuple #[.int .i64 n, .bool (numP s).isSome]) ∧ ∀ v, numP s = some v → n = v) ∧ Below w.heap.size w w' := by
  have hx : (((⟨s.toArray⟩ : ByteArray).size : Nat) : Int) = (s.length : Int) := by show ((s.toArray.size : Nat) : Int) = _; simp
  go_enter Tryz.func222, Tryz.ntmps222
  go_wp2_with fail
  go_loopw [4, 5] (fun u i wr => ∃ (k : Nat) (n : Int), k ≤ s.length ∧ u = .int .i64 n ∧ i = .int .i64 k ∧ wr = w ∧ (s.take k).all digitC = true ∧ (k ≤ 10 → n = numV (s.take k))) (fun _ i _ => s.length - (intOf i).toNat)
  case atStart => exact ⟨0, 0, Nat.zero_le _, rfl, rfl, rfl, rfl, fun _ => rfl⟩
  case round =>
    obtain ⟨k, n, hk, rfl, rfl, rfl, hd, hn⟩ := hrel
    have HN := Lib.hid hn
    clear hn
    by_cases hlt : k < s.length
    · have d1 : decide ((k : Int) < (s.length : Int)) = true := decide_eq_true (by omega)
      have hix := idx_str s k hlt
      have hdc := digC_int s[k]
      have htk : s.take (k + 1) = s.take k ++ [s[k]] := by rw [List.take_add_one, List.getElem?_eq_getElem hlt]; rfl
      by_cases hdg : digitC s[k] = true
      · have h48 := (digC_iff _).1 hdg
        have hnn : (s.take (k + 1)).all digitC = true := by rw [htk, List.all_append, hd]; simp [hdg]
        have hnv : numV (s.take (k + 1)) = 10 * numV (s.take k) + (s[k].toNat - 48) := by rw [htk, numV_app]
        have q1 : ¬ (s[k].toNat : Int) < 48 := by omega
        have q2 : ¬ 57 < (s[k].toNat : Int) := by omega
        have HV := Lib.hid hnv
        have HA := Lib.hid hnn
        have HT := Lib.hid (show numV (s.take k) < 10 ^ k from numV_lt hd (by rw [List.length_take]; omega))
        clear hnv hnn htk hdc hd
        generalize hcv : ((s[k].toNat : Nat) : Int) = cv at *
        go_wp2_with fail
        go_roundw
        case rel =>
          refine ⟨k + 1, _, by omega, rfl, rfl, trivial, HA.out, fun h10 => ?_⟩
          have hn := HN.out (by omega)
          have ht := HT.out
          have hp : (10 : Nat) ^ k ≤ 10 ^ 9 := Nat.pow_le_pow_right (by omega) (by omega)
          have h9 : (10 : Nat) ^ 9 = 1000000000 := by decide
          rw [HV.out]
          unfold wrap64
          omega
        case measure => simp [intOf]; omega
      · have hnd : digitC s[k] = false := by simpa using hdg
        have hNo : (numP s).isSome = false := by
          rw [numP_some_iff]
          have : s.all digitC = false := by
            rw [List.all_eq_false]
            exact ⟨s[k], List.getElem_mem hlt, by simp [hnd]⟩
          rw [this]; rfl
        rw [hdc] at hnd
        have HNN := Lib.hid (show numP s = none by cases hq : numP s with | none => rfl | some v => rw [hq] at hNo; cases hNo)
        have HNo := Lib.hid hNo
        clear hdc hdg htk hNo hd
        generalize hcv : ((s[k].toNat : Nat) : Int) = cv at *
        by_cases q1 : cv < 48
        · go_wp2_with fail
          go_ret2
          exact ⟨⟨0, by rw [HNo.out]; rfl, fun v e => (by exact absurd e (by rw [HNN.out]; simp))⟩, Below.refl _ _⟩
        · have q2 : 57 < cv := by
            have e1 : decide ((48 : Int) ≤ cv) = true := decide_eq_true (by omega)
            rw [e1] at hnd
            simpa using hnd
          go_wp2_with fail
          go_ret2
          exact ⟨⟨0, by rw [HNo.out]; rfl, fun v e => (by exact absurd e (by rw [HNN.out]; simp))⟩, Below.refl _ _⟩
    · have hke : k = s.length := by omega
      subst hke
      rw [List.take_length] at hd
      have hn2 : ∀ v, numP s = some v → n = v := fun v e => by
        obtain ⟨e1, e2, e3⟩ := numP_of e
        rw [HN.out e2, List.take_length, e3]
      have d1 : decide ((s.length : Int) < (s.length : Int)) = false := decide_eq_false (by omega)
      have HN2 := Lib.hid hn2
      have HI := Lib.hid (numP_some_iff s)
      rw [hd] at HI
      clear hn2 HN hd
      have HB := Lib.hid (Below.drew (Below.refl wr.heap.size wr))
      cases s with
      | nil =>
        go_wp2_with fail
        go_region
        all_goals (go_wp2_with fail; go_ret2; exact ⟨⟨n, by rw [HI.out]; rfl, HN2.out⟩, HB.out⟩)
      | cons c t =>
        by_cases h10 : t.length + 1 ≤ 10
        · have d2 : decide ((t.length : Int) + 1 ≤ 10) = true := decide_eq_true (by omega)
          by_cases h1 : t = []
          · subst h1
            go_wp2_with fail
            go_region
            all_goals (go_wp2_with fail; go_ret2; exact ⟨⟨n, by rw [HI.out]; rfl, HN2.out⟩, HB.out⟩)
          · have hix := idx_str (c :: t) 0 (by simp)
            simp only [List.getElem_cons_zero] at hix
            have hl := List.length_pos_iff.2 h1
            have d3 : decide ((t.length : Int) + 1 = 1) = false := decide_eq_false (by omega)
            have d4 : (1 : Int) ≤ (t.length : Int) + 1 := by omega
            have d5 : ¬ (t.length : Int) = 0 := by omega
            have d6 : ¬ (t.length : Int) + 1 = 1 := by omega
            have d7 : ((t.length : Int) + 1 == 1) = false := by simp; omega
            by_cases h48 : c = 48
            · subst h48
              go_wp2_with fail
              go_region
              all_goals (go_wp2_with fail; go_ret2; exact ⟨⟨n, by rw [HI.out]; simp [h1]; rfl, HN2.out⟩, HB.out⟩)
            · have q1 : ¬ (c.toNat : Int) = 48 := fun e => h48 (UInt8.toNat.inj (by show c.toNat = 48; omega))
              go_wp2_with fail
              go_region
              all_goals (go_wp2_with fail; go_ret2; exact ⟨⟨n, by rw [HI.out]; simp [h48]; rw [decide_eq_true (show t.length ≤ 9 by omega)]; exact bne_iff_ne.2 q1, HN2.out⟩, HB.out⟩)
        · have d2 : decide ((t.length : Int) + 1 ≤ 10) = false := decide_eq_false (by omega)
          have d4 : (1 : Int) ≤ (t.length : Int) + 1 := by omega
          go_wp2_with fail
          go_region
          all_goals (go_wp2_with fail; go_ret2; exact ⟨⟨n, by rw [HI.out]; simp; omega, HN2.out⟩, HB.out⟩)
end Go.Proofs.YtjebjninlejoeaaGreatDoor
namespace Go.Proofs.YtjebjninlejoeaaGreatDoor
open Go.RowKit Go.Maps Go.ChangeMaps
set_option linter.unusedVariables false
set_option linter.unusedSimpArgs false
set_option linter.unusedSectionVars false
set_option maxRecDepth 100000

/-- The document's line: its tokens, the place, whether something was not as it must be. -/
structure RL (w : World) (X : Nat) (K : Nat → Prop) (l : List Nm) (a : Nat) (b : Bool) : Prop where
  row : ∃ A c, Bk w X 139 [.slice A l.length c, .int .i64 a, .bool b] ∧ Txs w K A c l
  apart : ¬ K X
  ok : ∀ t ∈ l, t.length ≤ 1000000
  len : l.length ≤ 1000000
section
variable {w : World} {X : Nat} {K : Nat → Prop} {l : List Nm} {a : Nat} {b : Bool} (h : RL w X K l a b)
include h
theorem RL.lt : X < w.heap.size := by
  obtain ⟨A, c, hb, _⟩ := h.row
  exact hb.lt
theorem RL.keep {w' : World} (hk : ∀ g, g < w.heap.size → g = X ∨ K g → w'.heap[g]? = w.heap[g]?) : RL w' X K l a b := by
  obtain ⟨A, c, h1, h2, h3⟩ := h.row
  refine ⟨⟨A, c, (hk X h1.lt (.inl rfl)).trans h1, h2, fun hx => ?_⟩, h.apart, h.ok, h.len⟩
  obtain ⟨g, o, e, hg, hc⟩ := h3 hx
  refine ⟨g, o, e, hg, fun j t ht => ?_⟩
  have := hc j t ht
  exact (World.cell?_of_block (hk g (World.block_lt_of_cell? w _ this) (.inr hg))).trans this
theorem RL.below {w' : World} (hb : Below w.heap.size w w') : RL w' X K l a b := h.keep fun g hl _ => hb.block g hl
theorem RL.put {a' : Nat} {b' : Bool} (k : Nat) (u : Value) (hs : ∀ A c, [Value.slice A l.length c, .int .i64 a, .bool b].set k u = [Value.slice A l.length c, .int .i64 a', .bool b']) : RL (w.setCell ⟨X, k, none⟩ u) X K l a' b' ∧ Ag (fun g => g ≠ X) w (w.setCell ⟨X, k, none⟩ u) := by
  obtain ⟨A, c, hb, ht⟩ := h.row
  refine ⟨⟨⟨A, c, ?_, ht.keep (fun g hg => Below.heap_setCell w _ _ g (fun e => h.apart (by have e : g = X := e; rw [← e]; exact hg))) (fun _ hg => hg)⟩, h.apart, h.ok, h.len⟩, (Ag.refl _ w).setCell (fun _ q => q rfl) _⟩
  have := hb.set k u
  rwa [hs] at this
theorem rnext_any (ha : a ≤ 1000000000) : Calls Tryz.prog 198 #[.pointer (some ⟨X, 0, none⟩)] w fun x w' => x = .returned (.string ⟨(nxT l a).toArray⟩) ∧ Below w.heap.size w w' := by
  obtain ⟨A, c, hb, ht⟩ := h.row
  have hn := h.len
  have c0 := hb.cell 0
  have c1 := hb.cell 1
  simp only [List.getElem?_cons_zero, List.getElem?_cons_succ] at c0 c1
  have HD := Lib.hid (Below.drew (Below.refl w.heap.size w))
  have HD2 := Lib.hid (Below.drew (Below.drew (Below.refl w.heap.size w)))
  by_cases hlt : a < l.length
  · have hi : l[a]? = some (nxT l a) := by unfold nxT; rw [List.getD_eq_getElem?_getD, List.getElem?_eq_getElem hlt]; rfl
    obtain ⟨g, o, rfl, hg, hc⟩ := ht.2 (by rintro rfl; simp at hlt)
    have ca := hc a _ hi
    have q1 : (0 : Int) ≤ (a : Int) := by omega
    have q2 : (a : Int) < (l.length : Int) := by omega
    have d1 : decide ((l.length : Int) ≤ (a : Int)) = false := decide_eq_false (by omega)
    generalize nxT l a = u at *
    clear hi hc hb ht
    go_enter Tryz.func198, Tryz.ntmps198
    go_wp2_with fail
    go_region
    all_goals
      go_wp2_with fail
      go_region
      all_goals
        go_wp2_with fail
        go_ret
        exact ⟨rfl, HD2.out⟩
  · have d1 : decide ((l.length : Int) ≤ (a : Int)) = true := decide_eq_true (by omega)
    rw [(nx_out hlt).2]
    clear hb ht
    go_enter Tryz.func198, Tryz.ntmps198
    go_wp2_with fail
    go_region
    all_goals
      go_wp2_with fail
      go_ret
      exact ⟨rfl, HD.out⟩
theorem rtake_any (ha : a ≤ 1000000000) : Calls Tryz.prog 144 #[.pointer (some ⟨X, 0, none⟩)] w fun x w' => x = .returned (.string ⟨(nxT l a).toArray⟩) ∧ RL w' X K l (a + 1) b ∧ Ag (fun g => g ≠ X) w w' := by
  have hnext := rnext_any h ha
  go_enter Tryz.func144, Tryz.ntmps144
  go_wp2_with fail
  (with_reducible refine hnext.mono ?_)
  rintro _ w1 ⟨rfl, b1⟩
  have h1 := h.below b1
  obtain ⟨hp, hag⟩ := h1.put (a' := a + 1) (b' := b) 1 (.int .i64 ((a : Int) + 1)) (fun A c => rfl)
  obtain ⟨A, c, hb, ht⟩ := h1.row
  have c1 := hb.cell 1
  have f1 := hb.frozen 1
  simp only [List.getElem?_cons_zero, List.getElem?_cons_succ] at c1
  have HP := Lib.hid hp
  have HA := Lib.hid ((Ag.of_below (fun g => g ≠ X) b1).trans hag)
  clear hb ht hp hag h1
  go_wp2_with fail
  go_ret
  exact ⟨rfl, HP.out, HA.out⟩
/-- What a step of the document's reader tells. -/
def RfR {α : Type} (X : Nat) (K : Nat → Prop) (l : List Nm) (b : Bool) (m : Nat) (w : World) (r : Option (α × List Nm)) (val : α → Value) (x : Ending) (w' : World) : Prop :=
  ∃ v a' b', x = .returned (val v) ∧ a' ≤ m ∧ RL w' X K l a' b' ∧ Rf l b r v a' b' ∧ Ag (fun g => g ≠ X) w w'
theorem rmust_any (ha : a ≤ 100000000) (m : Nm) (hm : m ≠ []) : Calls Tryz.prog 147 #[.pointer (some ⟨X, 0, none⟩), .string ⟨m.toArray⟩] w fun x w' => RfR X K l b (a + 1) w (mustU m (l.drop a)) (fun _ => .tuple #[]) x w' := by
  have htake := rtake_any h (by omega)
  have HF := Lib.hid (rf_must (l := l) (a := a) (b := b) hm)
  by_cases he : nxT l a = m
  · rw [he] at htake HF
    have HE : (b || decide (m ≠ m)) = b := by simp
    rw [HE] at HF
    clear HE he
    go_enter Tryz.func147, Tryz.ntmps147
    go_wp2_with fail
    (with_reducible refine htake.mono ?_)
    rintro _ w1 ⟨rfl, h1, a1⟩
    go_wp2_with fail
    first
      | exact bodyPost_end (v := .tuple #[]) (by simp [results, Tryz.results147, go_sem]) rfl ⟨(), a + 1, b, rfl, Nat.le_refl _, h1, HF.out, a1⟩
      | exact bodyPost_ret (v := .tuple #[]) (by simp [results, Tryz.results147, go_sem]) rfl ⟨(), a + 1, b, rfl, Nat.le_refl _, h1, HF.out, a1⟩
  · have hq : (nxT l a == m) = false := by simpa using he
    have HE : (b || decide (nxT l a ≠ m)) = true := by simp [he]
    rw [HE] at HF
    clear HE he
    generalize nxT l a = u at *
    go_enter Tryz.func147, Tryz.ntmps147
    go_wp2_with fail
    (with_reducible refine htake.mono ?_)
    rintro _ w1 ⟨rfl, h1, a1⟩
    obtain ⟨h2, a2⟩ := h1.put (a' := a + 1) (b' := true) 2 (.bool true) (fun A c => rfl)
    obtain ⟨A, c, hb, ht⟩ := h1.row
    have f2 := hb.frozen 2
    have c2 := hb.cell 2
    simp only [List.getElem?_cons_zero, List.getElem?_cons_succ] at c2
    clear hb ht
    have H2 := Lib.hid h2
    have A2 := Lib.hid a2
    clear h2 a2
    go_wp2_with fail
    first
      | exact bodyPost_end (v := .tuple #[]) (by simp [results, Tryz.results147, go_sem]) rfl ⟨(), a + 1, true, rfl, Nat.le_refl _, H2.out, HF.out, a1.trans A2.out⟩
      | exact bodyPost_ret (v := .tuple #[]) (by simp [results, Tryz.results147, go_sem]) rfl ⟨(), a + 1, true, rfl, Nat.le_refl _, H2.out, HF.out, a1.trans A2.out⟩
end
end Go.Proofs.YtjebjninlejoeaaGreatDoor
namespace Go.Proofs.YtjebjninlejoeaaGreatDoor
open Go.RowKit Go.Maps Go.ChangeMaps
set_option linter.unusedVariables false
set_option linter.unusedSimpArgs false
set_option linter.unusedSectionVars false
set_option maxRecDepth 100000

theorem RL.mark {w : World} {X : Nat} {K : Nat → Prop} {l : List Nm} {a : Nat} {b : Bool} (h : RL w X K l a b) (b' : Bool) : w.cell? ⟨X, 2, none⟩ = some (.bool b) ∧ w.frozen? ⟨X, 2, none⟩ = false ∧ Hid (RL (w.setCell ⟨X, 2, none⟩ (.bool b')) X K l a b') ∧ Hid (Ag (fun g => g ≠ X) w (w.setCell ⟨X, 2, none⟩ (.bool b'))) := by
  obtain ⟨h2, a2⟩ := h.put (a' := a) (b' := b') 2 (.bool b') (fun A c => rfl)
  obtain ⟨A, c, hb, ht⟩ := h.row
  exact ⟨hb.cell 2, hb.frozen 2, Lib.hid h2, Lib.hid a2⟩
section
variable {w : World} {X : Nat} {K : Nat → Prop} {l : List Nm} {a : Nat} {b : Bool} (h : RL w X K l a b)
include h
theorem rregm_any (ha : a ≤ 100000000) : Calls Tryz.prog 146 #[.pointer (some ⟨X, 0, none⟩)] w fun x w' => RfR X K l b (a + 1) w (regT (l.drop a)) iV x w' := by
  have htake := rtake_any h (by omega)
  have hreg := rreg_any (nxT l a)
  have HF := Lib.hid (rf_reg (l := l) (a := a) (b := b) (v := regD (nxT l a)) (fun n e => by unfold regD; rw [e]; rfl))
  unfold iV
  generalize regD (nxT l a) = v at *
  cases hr : regP (nxT l a) with
  | none =>
    rw [hr] at HF hreg
    simp only [Option.isNone_none, Option.isSome_none, Bool.or_true] at HF hreg
    clear hr
    generalize nxT l a = u at *
    cases b
    all_goals
      go_enter Tryz.func146, Tryz.ntmps146
      go_wp2_with fail
      (with_reducible refine htake.mono ?_)
      rintro _ w1 ⟨rfl, h1, a1⟩
      obtain ⟨c2, f2, H2, A2⟩ := h1.mark true
      go_wp2_with fail
      (with_reducible refine (hreg w1).mono ?_)
      rintro _ w2 ⟨rfl, rfl⟩
      go_wp2_with fail
      go_ret
      exact ⟨v, a + 1, true, rfl, Nat.le_refl _, H2.out, HF.out, a1.trans A2.out⟩
  | some n =>
    rw [hr] at HF hreg
    simp only [Option.isNone_some, Option.isSome_some, Bool.or_false] at HF hreg
    clear hr
    generalize nxT l a = u at *
    cases b
    all_goals
      go_enter Tryz.func146, Tryz.ntmps146
      go_wp2_with fail
      (with_reducible refine htake.mono ?_)
      rintro _ w1 ⟨rfl, h1, a1⟩
      obtain ⟨c2, f2, H2, A2⟩ := h1.mark _
      go_wp2_with fail
      (with_reducible refine (hreg w1).mono ?_)
      rintro _ w2 ⟨rfl, rfl⟩
      go_wp2_with fail
      go_ret
      exact ⟨v, a + 1, _, rfl, Nat.le_refl _, H2.out, HF.out, a1.trans A2.out⟩
end
end Go.Proofs.YtjebjninlejoeaaGreatDoor
namespace Go.Proofs.YtjebjninlejoeaaGreatDoor
open Go.RowKit Go.Maps Go.ChangeMaps
set_option linter.unusedVariables false
set_option linter.unusedSimpArgs false
set_option linter.unusedSectionVars false
set_option maxRecDepth 100000

section
variable {w : World} {X : Nat} {K : Nat → Prop} {l : List Nm} {a : Nat} {b : Bool} (h : RL w X K l a b)
include h
theorem nx_len : (nxT l a).length ≤ 1000000 := by
  unfold nxT
  rw [List.getD_eq_getElem?_getD]
  cases hq : l[a]? with
  | none => simp
  | some t => exact h.ok t (List.mem_of_getElem? hq)
theorem rnumberm_any (ha : a ≤ 100000000) (below : Bool) : Calls Tryz.prog 200 #[.pointer (some ⟨X, 0, none⟩), .bool below] w fun x w' => RfR X K l b (a + 1) w (numB below (l.drop a)) iV x w' := by
  have htake := rtake_any h (by omega)
  have hnum := rnumber_any (nxT l a) (nx_len h)
  have HF := Lib.hid (fun (v : Int) (hv : ∀ n, numP (nxT l a) = some n → v = if below then -n else n) => rf_numB (l := l) (a := a) (b := b) (below := below) hv)
  unfold iV
  cases hr : numP (nxT l a) with
  | none =>
    rw [hr] at HF hnum
    simp only [Option.isNone_none, Option.isSome_none, Bool.or_true] at HF hnum
    clear hr
    generalize nxT l a = u at *
    cases b <;> cases below
    all_goals
      go_enter Tryz.func200, Tryz.ntmps200
      go_wp2_with fail
      (with_reducible refine htake.mono ?_)
      rintro _ w1 ⟨rfl, h1, a1⟩
      go_wp2_with fail
      (with_reducible refine (hnum w1).mono ?_)
      rintro _ w2 ⟨⟨v, rfl, hv⟩, b2⟩
      clear hv
      have h1b := h1.below b2
      have a1 := a1.trans (Ag.of_below _ b2)
      obtain ⟨c2, f2, H2, A2⟩ := h1b.mark true
      go_wp2_with fail
      go_ret
      exact ⟨_, a + 1, true, rfl, Nat.le_refl _, H2.out, HF.out _ (fun _ e => by cases e), a1.trans A2.out⟩
  | some n =>
    rw [hr] at HF hnum
    simp only [Option.isNone_some, Option.isSome_some, Bool.or_false] at HF hnum
    obtain ⟨hb1, hb2, hb3⟩ := numP_of hr
    have hlt := numV_lt hb1 hb2
    have q1 : (0 : Int) ≤ n := by omega
    have q2 : n < 10000000000 := by have : (10 : Nat) ^ 10 = 10000000000 := by decide
                                    omega
    clear hr hb1 hb2 hb3 hlt
    generalize nxT l a = u at *
    cases b <;> cases below
    all_goals
      go_enter Tryz.func200, Tryz.ntmps200
      go_wp2_with fail
      (with_reducible refine htake.mono ?_)
      rintro _ w1 ⟨rfl, h1, a1⟩
      go_wp2_with fail
      (with_reducible refine (hnum w1).mono ?_)
      rintro _ w2 ⟨⟨v, rfl, hv⟩, b2⟩
      obtain rfl := hv n rfl
      have h1b := h1.below b2
      have a1 := a1.trans (Ag.of_below _ b2)
      obtain ⟨c2, f2, H2, A2⟩ := h1b.mark _
      go_wp2_with fail
      go_ret
      exact ⟨_, a + 1, _, rfl, Nat.le_refl _, H2.out, HF.out _ (fun _ e => by cases e; rfl), a1.trans A2.out⟩
theorem rsigned_any (ha : a ≤ 100000) : Calls Tryz.prog 201 #[.pointer (some ⟨X, 0, none⟩)] w fun x w' => RfR X K l b (a + 2) w (signT (l.drop a)) iV x w' := by
  have htake := rtake_any h (by omega)
  unfold iV at *
  obtain ⟨b0, hb0⟩ : ∃ b0, b0 = b := ⟨b, rfl⟩
  by_cases hp : nxT l a = [43]
  · have HS := Lib.hid (fun v a' b' => rf_signed (l := l) (a := a) (a' := a') (b := b) (b' := b') (v := v))
    rw [hp] at htake HS
    have e1 : (b || (decide (([43] : Nm) ≠ [43]) && decide (([43] : Nm) ≠ [45]))) = b := by simp
    have e2 : decide (([43] : Nm) = [45]) = false := by decide
    rw [e1, e2] at HS
    clear e1 e2 hp hb0
    cases b
    all_goals
      go_enter Tryz.func201, Tryz.ntmps201
      go_wp2_with fail
      (with_reducible refine htake.mono ?_)
      rintro _ w1 ⟨rfl, h1, a1⟩
      obtain ⟨c2, f2, H2, A2⟩ := h1.mark _
      have hn := rnumberm_any H2.out (by omega) false
      unfold iV at hn
      go_wp2_with fail
      (with_reducible refine hn.mono ?_)
      rintro _ w2 ⟨v, a', b', rfl, ha', h2, hf, a2⟩
      go_wp2_with fail
      go_ret
      exact ⟨v, a', b', rfl, ha', h2, HS.out v a' b' hf, a1.trans (A2.out.trans a2)⟩
  by_cases hm : nxT l a = [45]
  · have HS := Lib.hid (fun v a' b' => rf_signed (l := l) (a := a) (a' := a') (b := b) (b' := b') (v := v))
    rw [hm] at htake HS
    have e1 : (b || (decide (([45] : Nm) ≠ [43]) && decide (([45] : Nm) ≠ [45]))) = b := by simp
    have e2 : decide (([45] : Nm) = [45]) = true := by decide
    rw [e1, e2] at HS
    clear e1 e2 hp hm hb0
    cases b
    all_goals
      go_enter Tryz.func201, Tryz.ntmps201
      go_wp2_with fail
      (with_reducible refine htake.mono ?_)
      rintro _ w1 ⟨rfl, h1, a1⟩
      obtain ⟨c2, f2, H2, A2⟩ := h1.mark _
      have hn := rnumberm_any H2.out (by omega) true
      unfold iV at hn
      go_wp2_with fail
      (with_reducible refine hn.mono ?_)
      rintro _ w2 ⟨v, a', b', rfl, ha', h2, hf, a2⟩
      go_wp2_with fail
      go_ret
      exact ⟨v, a', b', rfl, ha', h2, HS.out v a' b' hf, a1.trans (A2.out.trans a2)⟩
  · have HS := Lib.hid (fun v a' b' => rf_signed (l := l) (a := a) (a' := a') (b := b) (b' := b') (v := v))
    have e1 : (b || (decide (nxT l a ≠ [43]) && decide (nxT l a ≠ [45]))) = true := by simp [hp, hm]
    have e2 : decide (nxT l a = [45]) = false := decide_eq_false hm
    rw [e1, e2] at HS
    have q1 : (nxT l a == [43]) = false := by simpa using hp
    have q2 : (nxT l a == [45]) = false := by simpa using hm
    clear e1 e2 hp hm hb0
    generalize nxT l a = u at *
    cases b
    all_goals
      go_enter Tryz.func201, Tryz.ntmps201
      go_wp2_with fail
      (with_reducible refine htake.mono ?_)
      rintro _ w1 ⟨rfl, h1, a1⟩
      obtain ⟨c2, f2, H2, A2⟩ := h1.mark true
      have hn := rnumberm_any H2.out (by omega) false
      unfold iV at hn
      go_wp2_with fail
      (with_reducible refine hn.mono ?_)
      rintro _ w2 ⟨v, a', b', rfl, ha', h2, hf, a2⟩
      go_wp2_with fail
      go_ret
      exact ⟨v, a', b', rfl, ha', h2, HS.out v a' b' hf, a1.trans (A2.out.trans a2)⟩
end
end Go.Proofs.YtjebjninlejoeaaGreatDoor
namespace Go.Proofs.YtjebjninlejoeaaGreatDoor
open Go.RowKit Go.Maps Go.ChangeMaps
set_option linter.unusedVariables false
set_option linter.unusedSimpArgs false
set_option linter.unusedSectionVars false
set_option maxRecDepth 100000

/-- The document's line, and the instruction that it makes. -/
structure RS (w : World) (X I : Nat) (K : Nat → Prop) (l : List Nm) (a : Nat) (b : Bool) (i : IV) : Prop where
  rl : RL w X K l a b
  bk : Bk w I 40 (ivV i)
  ne : I ≠ X
  nk : ¬ K I
def FrI (X I : Nat) (g : Nat) : Prop := g ≠ X ∧ g ≠ I
section
variable {w w' : World} {X I : Nat} {K : Nat → Prop} {l : List Nm} {a a' : Nat} {b b' : Bool} {i : IV}
theorem RS.lined (h : RS w X I K l a b i) (h1 : RL w' X K l a' b') (ha : Ag (fun g => g ≠ X) w w') : RS w' X I K l a' b' i ∧ Ag (FrI X I) w w' :=
  ⟨⟨h1, (ha.block I h.bk.lt h.ne).trans h.bk, h.ne, h.nk⟩, ha.mono fun g _ q => q.1⟩
theorem RS.put (h : RS w X I K l a b i) {i' : IV} (k : Nat) (u : Value) (e : (ivV i).set k u = ivV i') : RS (w.setCell ⟨I, k, none⟩ u) X I K l a b i' ∧ Ag (FrI X I) w (w.setCell ⟨I, k, none⟩ u) := by
  refine ⟨⟨h.rl.keep fun g _ hg => Below.heap_setCell w _ _ g (fun e => ?_), ?_, h.ne, h.nk⟩, (Ag.refl _ w).setCell (fun _ q => q.2 rfl) _⟩
  · have e : g = I := e
    subst e
    rcases hg with hg | hg
    · exact h.ne hg
    · exact h.nk hg
  · have := h.bk.set k u
    rwa [e] at this
theorem RS.below (h : RS w X I K l a b i) (hb : Below w.heap.size w w') : RS w' X I K l a b i := ⟨h.rl.below hb, h.bk.below hb h.bk.lt, h.ne, h.nk⟩
theorem RS.cells (h : RS w X I K l a b i) : (w.cell? ⟨I, 3, none⟩ = some (.int .i64 i.src) ∧ w.cell? ⟨I, 4, none⟩ = some (.bool i.useImm) ∧ w.cell? ⟨I, 5, none⟩ = some (.int .i64 i.off) ∧ w.cell? ⟨I, 6, none⟩ = some (.int .i64 i.imm)) ∧ (w.frozen? ⟨I, 3, none⟩ = false ∧ w.frozen? ⟨I, 4, none⟩ = false ∧ w.frozen? ⟨I, 5, none⟩ = false ∧ w.frozen? ⟨I, 6, none⟩ = false) :=
  ⟨⟨h.bk.cell 3, h.bk.cell 4, h.bk.cell 5, h.bk.cell 6⟩, h.bk.frozen 3, h.bk.frozen 4, h.bk.frozen 5, h.bk.frozen 6⟩
/-- The place is one further. -/
theorem RL.next (h : RL w X K l a b) : w.cell? ⟨X, 1, none⟩ = some (.int .i64 a) ∧ w.frozen? ⟨X, 1, none⟩ = false ∧ Hid (RL (w.setCell ⟨X, 1, none⟩ (.int .i64 ((a : Int) + 1))) X K l (a + 1) b) ∧ Hid (Ag (fun g => g ≠ X) w (w.setCell ⟨X, 1, none⟩ (.int .i64 ((a : Int) + 1)))) := by
  obtain ⟨h2, a2⟩ := h.put (a' := a + 1) (b' := b) 1 (.int .i64 ((a : Int) + 1)) (fun A c => rfl)
  obtain ⟨A, c, hb, ht⟩ := h.row
  exact ⟨hb.cell 1, hb.frozen 1, Lib.hid h2, Lib.hid a2⟩
end
/-- What a step that makes a part of an instruction tells. -/
def RsR {α : Type} (X I : Nat) (K : Nat → Prop) (l : List Nm) (b : Bool) (m : Nat) (w : World) (r : Option (α × List Nm)) (ins : α → IV) (val : α → Value) (x : Ending) (w' : World) : Prop :=
  ∃ v a' b', x = .returned (val v) ∧ a' ≤ m ∧ RS w' X I K l a' b' (ins v) ∧ Rf l b r v a' b' ∧ Ag (FrI X I) w w'
section
variable {w : World} {X I : Nat} {K : Nat → Prop} {l : List Nm} {a : Nat} {b : Bool} {i : IV} (h : RS w X I K l a b i)
include h
set_option maxHeartbeats 1000000 in
theorem rsecond_any (ha : a ≤ 10000) : Calls Tryz.prog 148 #[.pointer (some ⟨X, 0, none⟩), .pointer (some ⟨I, 0, none⟩)] w fun x w' => RsR X I K l b (a + 2) w (secT i (l.drop a)) id (fun _ => .tuple #[]) x w' := by
  have hnx := rnext_any h.rl (by omega)
  have hreg := rreg_any (nxT l a)
  have q1 : (a : Int) ≤ 10000 := by omega
  cases hr : regP (nxT l a) with
  | some v =>
    have hD : regD (nxT l a) = v := by unfold regD; rw [hr]; rfl
    rw [hD, hr] at hreg
    simp only [Option.isSome_some] at hreg
    have HF := Lib.hid (rf_sec_reg (b := b) (i := i) hr)
    have H := Lib.hid h
    clear hD hr h
    generalize nxT l a = u at *
    go_enter Tryz.func148, Tryz.ntmps148
    go_wp2_with fail
    (with_reducible refine hnx.mono ?_)
    rintro _ w1 ⟨rfl, b1⟩
    go_wp2_with fail
    (with_reducible refine (hreg w1).mono ?_)
    rintro _ w2 ⟨rfl, rfl⟩
    have h1 := H.out.below b1
    obtain ⟨c1, f1, H2, A2⟩ := h1.rl.next
    obtain ⟨h3, a3⟩ := h1.lined H2.out A2.out
    obtain ⟨h4, a4⟩ := h3.put (i' := { i with src := v }) 3 (.int .i64 v) rfl
    obtain ⟨⟨k3, _, _, _⟩, z3, _, _, _⟩ := h3.cells
    have HN := Lib.hid (show RsR X I K l b (a + 2) w (secT i (l.drop a)) id (fun _ => .tuple #[]) (.returned (.tuple #[])) _ from ⟨_, a + 1, b, rfl, by omega, h4, HF.out, (Ag.of_below _ b1).trans (a3.trans a4)⟩)
    clear h1 h3 a3 h4 a4 H2 A2 b1 HF H hnx hreg
    go_wp2_with fail
    first
      | exact bodyPost_end (v := .tuple #[]) (by simp [results, Tryz.results148, go_sem]) rfl HN.out
      | exact bodyPost_ret (v := .tuple #[]) (by simp [results, Tryz.results148, go_sem]) rfl HN.out
  | none =>
    rw [hr] at hreg
    simp only [Option.isSome_none] at hreg
    have H := Lib.hid h
    have HR := Lib.hid hr
    clear hr
    by_cases hm : nxT l a = [45]
    · have HM := Lib.hid hm
      rw [hm] at hnx hreg
      generalize regD [45] = dv at *
      clear hm h
      go_enter Tryz.func148, Tryz.ntmps148
      go_wp2_with fail
      (with_reducible refine hnx.mono ?_)
      rintro _ w1 ⟨rfl, b1⟩
      go_wp2_with fail
      (with_reducible refine (hreg w1).mono ?_)
      rintro _ w2 ⟨rfl, rfl⟩
      have h1 := H.out.below b1
      obtain ⟨⟨_, k4, _, _⟩, _, z4, _, _⟩ := h1.cells
      obtain ⟨h2, a2⟩ := h1.put (i' := { i with useImm := true }) 4 (.bool true) rfl
      have hnx2 := rnext_any h2.rl (by omega)
      rw [HM.out] at hnx2
      have H2 := Lib.hid h2
      have A2 := Lib.hid ((Ag.of_below (FrI X I) b1).trans a2)
      clear h1 h2 a2 b1 hnx hreg H
      go_wp2_with fail
      (with_reducible refine hnx2.mono ?_)
      rintro _ w3 ⟨rfl, b3⟩
      have h3 := H2.out.below b3
      obtain ⟨c1, f1, H4, A4⟩ := h3.rl.next
      obtain ⟨h4, a4⟩ := h3.lined H4.out A4.out
      have hn := rnumberm_any h4.rl (by omega) true
      have HA4 := Lib.hid (A2.out.trans ((Ag.of_below (FrI X I) b3).trans a4))
      have HH4 := Lib.hid h4
      unfold iV at hn
      clear h3 h4 a4 H4 A4 b3 hnx2 H2 A2
      go_wp2_with fail
      (with_reducible refine hn.mono ?_)
      rintro _ w5 ⟨v, a', b', rfl, ha', h5, hf, a5⟩
      obtain ⟨h6, a6⟩ := HH4.out.lined h5 a5
      obtain ⟨⟨_, _, _, k6⟩, _, _, _, z6⟩ := h6.cells
      obtain ⟨h7, a7⟩ := h6.put (i' := { i with useImm := true, imm := v }) 6 (.int .i64 v) rfl
      have HN := Lib.hid (show RsR X I K l b (a + 2) w (secT i (l.drop a)) id (fun _ => .tuple #[]) (.returned (.tuple #[])) _ from ⟨_, a', b', rfl, by omega, h7, rf_sec_minus HM.out hf, HA4.out.trans (a6.trans a7)⟩)
      clear h5 a5 h6 a6 h7 a7 hn hf
      go_wp2_with fail
      first
        | exact bodyPost_end (v := .tuple #[]) (by simp [results, Tryz.results148, go_sem]) rfl HN.out
        | exact bodyPost_ret (v := .tuple #[]) (by simp [results, Tryz.results148, go_sem]) rfl HN.out
    · have hq : (nxT l a == [45]) = false := by simpa using hm
      have HM := Lib.hid hm
      have HQ := Lib.hid hq
      generalize regD (nxT l a) = dv at *
      clear hm h hq
      go_enter Tryz.func148, Tryz.ntmps148
      go_wp2_with fail
      (with_reducible refine hnx.mono ?_)
      rintro _ w1 ⟨rfl, b1⟩
      go_wp2_with fail
      (with_reducible refine (hreg w1).mono ?_)
      rintro _ w2 ⟨rfl, rfl⟩
      have h1 := H.out.below b1
      obtain ⟨⟨_, k4, _, _⟩, _, z4, _, _⟩ := h1.cells
      obtain ⟨h2, a2⟩ := h1.put (i' := { i with useImm := true }) 4 (.bool true) rfl
      have hnx2 := rnext_any h2.rl (by omega)
      have H2 := Lib.hid h2
      have A2 := Lib.hid ((Ag.of_below (FrI X I) b1).trans a2)
      clear h1 h2 a2 b1 hnx hreg H
      go_wp2_with fail
      (with_reducible refine hnx2.mono ?_)
      rintro _ w3 ⟨rfl, b3⟩
      have h3 := H2.out.below b3
      have hn := rnumberm_any h3.rl (by omega) false
      have HA4 := Lib.hid (A2.out.trans (Ag.of_below (FrI X I) b3))
      have HH4 := Lib.hid h3
      have hq := HQ.out
      have hq2 := HM.out
      unfold iV at hn
      clear h3 b3 hnx2 H2 A2
      go_wp2_with fail
      (with_reducible refine hn.mono ?_)
      rintro _ w5 ⟨v, a', b', rfl, ha', h5, hf, a5⟩
      obtain ⟨h6, a6⟩ := HH4.out.lined h5 a5
      obtain ⟨⟨_, _, _, k6⟩, _, _, _, z6⟩ := h6.cells
      obtain ⟨h7, a7⟩ := h6.put (i' := { i with useImm := true, imm := v }) 6 (.int .i64 v) rfl
      have HN := Lib.hid (show RsR X I K l b (a + 2) w (secT i (l.drop a)) id (fun _ => .tuple #[]) (.returned (.tuple #[])) _ from ⟨_, a', b', rfl, by omega, h7, rf_sec_num HR.out HM.out hf, HA4.out.trans (a6.trans a7)⟩)
      clear h5 a5 h6 a6 h7 a7 hn hf
      go_wp2_with fail
      first
        | exact bodyPost_end (v := .tuple #[]) (by simp [results, Tryz.results148, go_sem]) rfl HN.out
        | exact bodyPost_ret (v := .tuple #[]) (by simp [results, Tryz.results148, go_sem]) rfl HN.out
end
end Go.Proofs.YtjebjninlejoeaaGreatDoor
namespace Go.Proofs.YtjebjninlejoeaaGreatDoor
open Go.RowKit Go.Maps Go.ChangeMaps
set_option linter.unusedVariables false
set_option linter.unusedSimpArgs false
set_option linter.unusedSectionVars false
set_option maxRecDepth 100000

section
variable {w : World} {X I : Nat} {K : Nat → Prop} {l : List Nm} {a : Nat} {b : Bool} {i : IV} (h : RS w X I K l a b i)
include h
set_option maxHeartbeats 1000000 in
theorem rto_any (ha : a ≤ 10000) : Calls Tryz.prog 149 #[.pointer (some ⟨X, 0, none⟩), .pointer (some ⟨I, 0, none⟩)] w fun x w' => RsR X I K l b (a + 2) w (toU i (l.drop a)) (fun v => v.1) (fun v => .string ⟨v.2.toArray⟩) x w' := by
  have hnx := rnext_any h.rl (by omega)
  have hlb := rlabel_any (nxT l a) (by have := nx_len (a := a) h.rl; omega)
  have H := Lib.hid h
  cases hL : labelP (nxT l a) with
  | true =>
    rw [hL] at hlb
    have HF := Lib.hid (rf_to_label (b := b) (i := i) hL)
    clear hL h
    generalize hU : nxT l a = u at *
    have HU := Lib.hid hU
    clear hU
    go_enter Tryz.func149, Tryz.ntmps149
    go_wp2_with fail
    (with_reducible refine hnx.mono ?_)
    rintro _ w1 ⟨rfl, b1⟩
    go_wp2_with fail
    (with_reducible refine (hlb w1).mono ?_)
    rintro _ w2 ⟨rfl, rfl⟩
    have h1 := H.out.below b1
    have ht := rtake_any h1.rl (by omega)
    rw [HU.out] at ht
    have HH1 := Lib.hid h1
    have HB1 := Lib.hid (Ag.of_below (FrI X I) b1)
    clear h1 b1 hnx hlb H
    go_wp2_with fail
    (with_reducible refine ht.mono ?_)
    rintro _ w3 ⟨rfl, h3, a3⟩
    obtain ⟨h4, a4⟩ := HH1.out.lined h3 a3
    have HN := Lib.hid (show RsR X I K l b (a + 2) w (toU i (l.drop a)) (fun v => v.1) (fun v => .string ⟨v.2.toArray⟩) (.returned (.string ⟨u.toArray⟩)) w3 from ⟨(i, u), a + 1, b, rfl, by omega, h4, HF.out, HB1.out.trans a4⟩)
    clear h3 a3 h4 a4 ht
    go_wp2_with fail
    go_ret
    exact HN.out
  | false =>
    rw [hL] at hlb
    have HF := Lib.hid (fun (v : Int) (a' : Nat) (b' : Bool) => rf_to_sign (l := l) (a := a) (a' := a') (b := b) (b' := b') (i := i) (v := v) hL)
    clear hL h
    generalize nxT l a = u at *
    go_enter Tryz.func149, Tryz.ntmps149
    go_wp2_with fail
    (with_reducible refine hnx.mono ?_)
    rintro _ w1 ⟨rfl, b1⟩
    go_wp2_with fail
    (with_reducible refine (hlb w1).mono ?_)
    rintro _ w2 ⟨rfl, rfl⟩
    have h1 := H.out.below b1
    have hs := rsigned_any h1.rl (by omega)
    have HH1 := Lib.hid h1
    have HB1 := Lib.hid (Ag.of_below (FrI X I) b1)
    unfold iV at hs
    clear h1 b1 hnx hlb H
    go_wp2_with fail
    (with_reducible refine hs.mono ?_)
    rintro _ w3 ⟨v, a', b', rfl, ha', h3, hf, a3⟩
    obtain ⟨h4, a4⟩ := HH1.out.lined h3 a3
    obtain ⟨⟨_, _, k5, _⟩, _, _, z5, _⟩ := h4.cells
    obtain ⟨h5, a5⟩ := h4.put (i' := { i with off := v }) 5 (.int .i64 v) rfl
    have HN := Lib.hid (show RsR X I K l b (a + 2) w (toU i (l.drop a)) (fun v => v.1) (fun v => .string ⟨v.2.toArray⟩) (.returned (.string ⟨([] : Nm).toArray⟩)) _ from ⟨({ i with off := v }, []), a', b', rfl, by omega, h5, HF.out v a' b' hf, HB1.out.trans (a4.trans a5)⟩)
    clear h3 a3 h4 a4 h5 a5 hs hf
    go_wp2_with fail
    go_ret
    exact HN.out
set_option maxHeartbeats 1000000 in
theorem rcell_any (ha : a ≤ 10000) : Calls Tryz.prog 151 #[.pointer (some ⟨X, 0, none⟩), .pointer (some ⟨I, 0, none⟩)] w fun x w' => RsR X I K l b (a + 5) w (cellU (l.drop a)) (fun v => { i with off := v.2 }) (fun v => .int .i64 v.1) x w' := by
  have h1 := rmust_any h.rl (by omega) [91] (by simp)
  have H := Lib.hid h
  clear h
  go_enter Tryz.func151, Tryz.ntmps151
  go_wp2_with fail
  (with_reducible refine h1.mono ?_)
  rintro _ w1 ⟨_, a1, b1, rfl, ha1, r1, f1, g1⟩
  obtain ⟨s1, t1⟩ := H.out.lined r1 g1
  have h2 := rregm_any s1.rl (by omega)
  have S1 := Lib.hid s1
  have T1 := Lib.hid t1
  have F1 := Lib.hid f1
  unfold iV at h2
  clear h1 r1 g1 s1 t1 f1 H
  go_wp2_with fail
  (with_reducible refine h2.mono ?_)
  rintro _ w2 ⟨n, a2, b2, rfl, ha2, r2, f2, g2⟩
  obtain ⟨s2, t2⟩ := S1.out.lined r2 g2
  have h3 := rsigned_any s2.rl (by omega)
  have S2 := Lib.hid s2
  have T2 := Lib.hid (T1.out.trans t2)
  have F2 := Lib.hid f2
  unfold iV at h3
  clear h2 r2 g2 s2 t2 f2 S1 T1
  go_wp2_with fail
  (with_reducible refine h3.mono ?_)
  rintro _ w3 ⟨o, a3, b3, rfl, ha3, r3, f3, g3⟩
  obtain ⟨s3, t3⟩ := S2.out.lined r3 g3
  obtain ⟨⟨_, _, k5, _⟩, _, _, z5, _⟩ := s3.cells
  obtain ⟨s4, t4⟩ := s3.put (i' := { i with off := o }) 5 (.int .i64 o) rfl
  have h4 := rmust_any s4.rl (by omega) [93] (by simp)
  have S4 := Lib.hid s4
  have T4 := Lib.hid (T2.out.trans (t3.trans t4))
  have F3 := Lib.hid f3
  clear h3 r3 g3 s3 t3 s4 t4 f3 S2 T2
  go_wp2_with fail
  (with_reducible refine h4.mono ?_)
  rintro _ w5 ⟨_, a5, b5, rfl, ha5, r5, f5, g5⟩
  obtain ⟨s5, t5⟩ := S4.out.lined r5 g5
  have HN := Lib.hid (show RsR X I K l b (a + 5) w (cellU (l.drop a)) (fun v => { i with off := v.2 }) (fun v => .int .i64 v.1) (.returned (.int .i64 n)) w5 from ⟨(n, o), a5, b5, rfl, by omega, s5, rf_cell F1.out F2.out F3.out f5, T4.out.trans t5⟩)
  clear h4 r5 g5 s5 t5 f5 S4 T4 F1 F2 F3
  go_wp2_with fail
  go_ret
  exact HN.out
end
end Go.Proofs.YtjebjninlejoeaaGreatDoor
namespace Go.Proofs.YtjebjninlejoeaaGreatDoor
open Go.RowKit Go.Maps Go.ChangeMaps
set_option linter.unusedVariables false
set_option linter.unusedSimpArgs false
set_option linter.unusedSectionVars false
set_option maxRecDepth 100000

theorem words_short : ∀ v ∈ wordsL, v.length ≤ 4 := by decide +kernel
theorem rwords_any (w : World) : Calls Tryz.prog 111 #[] w fun e w' => e = .returned (.slice (some ⟨w.heap.size, 0, none⟩) 27 27) ∧ w' = w.alloc (.cells (wordsL.map nmV).toArray 9) := by
  go_enter Tryz.func111, Tryz.ntmps111
  go_wp2_with fail
  go_ret
  exact ⟨rfl, rfl⟩
set_option maxHeartbeats 2000000 in
theorem rop_any (s : Nm) (w : World) : Calls Tryz.prog 145 #[.string ⟨s.toArray⟩] w fun e w' => e = .returned (.tuple #[.int .u8 (opR s).1, .bool (opR s).2]) ∧ Below w.heap.size w w' := by
  go_enter Tryz.func145, Tryz.ntmps145
  go_wp2_with fail
  (with_reducible refine (rwords_any w).mono ?_)
  rintro _ w1 ⟨rfl, rfl⟩
  have HBK := Lib.hid (Bk.new w 9 (wordsL.map nmV))
  have HB := Lib.hid ((Below.refl _ w).alloc (Nat.le_refl _) (.cells (wordsL.map nmV).toArray 9))
  generalize hw1 : w.alloc (.cells (wordsL.map nmV).toArray 9) = w1 at *
  obtain ⟨g, hg⟩ : ∃ g, g = w.heap.size := ⟨_, rfl⟩
  rw [← hg] at HBK ⊢
  clear hw1 hg
  go_wp2_with fail
  go_loopw [5] (fun i wr => ∃ k : Nat, k ≤ 27 ∧ i = .int .i64 k ∧ wr = w1 ∧ Hid (∀ j, j < k → ∀ v, wordsL[j]? = some v → v ≠ [] → s ≠ v ∧ s ≠ v ++ n32)) (fun i _ => 27 - (intOf i).toNat)
  case atStart => exact ⟨0, by omega, rfl, rfl, Lib.hid (fun j hj => by omega)⟩
  case round =>
    obtain ⟨k, hk, rfl, rfl, HNO⟩ := hrel
    by_cases hlt : k < 27
    · have d1 : decide ((k : Int) < 27) = true := decide_eq_true (by omega)
      obtain ⟨v, hv⟩ : ∃ v, wordsL[k]? = some v := ⟨wordsL[k]'(by show k < 27; omega), List.getElem?_eq_getElem _⟩
      have c0 := HBK.out.cell k
      rw [List.getElem?_map, hv] at c0
      simp only [Option.map_some] at c0
      unfold nmV at c0
      have hvl := words_short v (List.mem_of_getElem? hv)
      have q1 : (0 : Int) ≤ (k : Int) := by omega
      have q2 : (k : Int) < 27 := by omega
      have HV := Lib.hid hv
      clear hv
      cases v with
      | nil =>
        have HN := Lib.hid (show ∀ j, j < k + 1 → ∀ v, wordsL[j]? = some v → v ≠ [] → s ≠ v ∧ s ≠ v ++ n32 from fun j hj v hv hne => by
          by_cases e : j = k
          · subst e; rw [HV.out] at hv; injection hv with hv; exact absurd hv.symm hne
          · exact HNO.out j (by omega) v hv hne)
        go_wp2_with fail
        go_roundw
        case rel => exact ⟨k + 1, by omega, by go_num, by first | rfl | trivial, HN⟩
        case measure => simp [intOf]; omega
      | cons c t =>
        have z1 : ¬ 9223372036854775807 < (c :: t).length + 2 := by omega
        have z2 : ¬ 9223372036854775807 < t.length + 1 + 2 := by simp at hvl; omega
        have hcat : ((⟨(c :: t).toArray⟩ : ByteArray) ++ ⟨#[51, 50]⟩) = ⟨(c :: t ++ n32).toArray⟩ := cat_is (c :: t) [51, 50]
        by_cases e1 : s = c :: t
        · have HR := Lib.hid (opR_at HV.out (by simp) (.inl e1) HNO.out (fun _ => trivial))
          have hq : (s == c :: t) = true := by simpa using e1
          rw [show decide (s ≠ c :: t) = false by simp [e1]] at HR
          clear HNO
          subst e1
          go_wp2_with fail
          go_ret2
          exact ⟨by rw [HR.out]; rfl, HB.out⟩
        · have hq : (s == c :: t) = false := by simpa using e1
          by_cases e2 : s = c :: t ++ n32
          · have HR := Lib.hid (opR_at HV.out (by simp) (.inr e2) HNO.out (fun _ => trivial))
            rw [show decide (s ≠ c :: t) = true by simp [e1]] at HR
            have hq2 : (s == c :: (t ++ n32)) = true := by simpa using e2
            have HS := Lib.hid e2
            clear HNO e2
            go_wp2_with fail
            go_ret2
            exact ⟨by rw [HR.out]; rfl, HB.out⟩
          · have hq2 : (s == c :: (t ++ n32)) = false := by simpa using e2
            have HN := Lib.hid (show ∀ j, j < k + 1 → ∀ v, wordsL[j]? = some v → v ≠ [] → s ≠ v ∧ s ≠ v ++ n32 from fun j hj v hv hne => by
              by_cases e : j = k
              · subst e; rw [HV.out] at hv; injection hv with hv; subst hv; exact ⟨e1, e2⟩
              · exact HNO.out j (by omega) v hv hne)
            clear HNO
            go_wp2_with fail
            go_roundw
            case rel => exact ⟨k + 1, by omega, by go_num, by first | rfl | trivial, HN⟩
            case measure => simp [intOf]; omega
    · have d1 : decide ((k : Int) < 27) = false := decide_eq_false (by omega)
      have HR := Lib.hid (opR_none (s := s) (fun j hj => HNO.out j (by omega)))
      clear HNO
      go_wp2_with fail
      go_ret2
      exact ⟨by rw [HR.out]; rfl, HB.out⟩
end Go.Proofs.YtjebjninlejoeaaGreatDoor
namespace Go.Proofs.YtjebjninlejoeaaGreatDoor
open Go.RowKit Go.Maps Go.ChangeMaps
set_option linter.unusedVariables false
set_option linter.unusedSimpArgs false
set_option linter.unusedSectionVars false
set_option maxRecDepth 100000

theorem sizedR_eq (s w : Nm) : sizedR s w = if s = w ++ [49] then 1 else if s = w ++ [50] then 2 else if s = w ++ [52] then 4 else if s = w ++ [56] then 8 else 0 := by
  unfold sizedR sizesL
  by_cases h1 : s = w ++ [49]
  · subst h1; simp
  · have h1' : ¬ w ++ [49] = s := fun e => h1 e.symm
    by_cases h2 : s = w ++ [50]
    · subst h2; simp [List.find?, h1']
    · have h2' : ¬ w ++ [50] = s := fun e => h2 e.symm
      by_cases h4 : s = w ++ [52]
      · subst h4; simp [List.find?, h1', h2']
      · have h4' : ¬ w ++ [52] = s := fun e => h4 e.symm
        by_cases h8 : s = w ++ [56]
        · subst h8; simp [List.find?, h1', h2', h4']
        · have h8' : ¬ w ++ [56] = s := fun e => h8 e.symm
          simp [List.find?, h1, h2, h4, h8, h1', h2', h4', h8']
set_option maxHeartbeats 2000000 in
theorem rsized_any (s u : Nm) (hu : u.length ≤ 4) (w : World) : Calls Tryz.prog 150 #[.string ⟨s.toArray⟩, .string ⟨u.toArray⟩] w fun e w' => e = .returned (.int .i64 (sizedR s u)) ∧ w' = w := by
  have HR := Lib.hid (sizedR_eq s u)
  go_enter Tryz.func150, Tryz.ntmps150
  go_wp2_with fail
  go_loopw [5] (fun i wr => wr = w ∧ ((i = .int .i64 1) ∨ (i = .int .i64 2 ∧ Hid (¬ s = u ++ [49])) ∨ (i = .int .i64 4 ∧ Hid (¬ s = u ++ [49] ∧ ¬ s = u ++ [50])) ∨ (i = .int .i64 8 ∧ Hid (¬ s = u ++ [49] ∧ ¬ s = u ++ [50] ∧ ¬ s = u ++ [52])) ∨ (i = .int .i64 16 ∧ Hid (¬ s = u ++ [49] ∧ ¬ s = u ++ [50] ∧ ¬ s = u ++ [52] ∧ ¬ s = u ++ [56])))) (fun i _ => 16 - (intOf i).toNat)
  case atStart => exact ⟨rfl, .inl rfl⟩
  case round =>
    obtain ⟨rfl, hrel⟩ := hrel
    rcases hrel with rfl | ⟨rfl, HN⟩ | ⟨rfl, HN⟩ | ⟨rfl, HN⟩ | ⟨rfl, HN⟩
    · have hcon := Tryz.strconv_Itoa_small 1 (by omega) wr
      have hd : Lib.decDigits 1 = [49] := by rw [Lib.decDigits_one (by decide)]; rfl
      rw [hd] at hcon
      simp only [Int.ofNat_eq_natCast, Int.cast_ofNat_Int] at hcon
      have hcat : ((⟨u.toArray⟩ : ByteArray) ++ ⟨#[49]⟩) = ⟨(u ++ [49]).toArray⟩ := cat_is u [49]
      have z1 : ¬ 9223372036854775807 < u.length + 1 := by omega
      by_cases e1 : s = u ++ [49]
      · have hR : sizedR s u = 1 := by rw [HR.out, if_pos e1]
        have HRR := Lib.hid hR
        have hq : (s == u ++ [49]) = true := by simpa using e1
        clear e1 hR
        go_wp2_with fail
        (with_reducible refine hcon.mono ?_)
        rintro _ w1 ⟨rfl, rfl⟩
        go_wp2_with fail
        go_ret
        exact ⟨by rw [HRR.out]; rfl, rfl⟩
      · have hq : (s == u ++ [49]) = false := by simpa using e1
        have HN2 := Lib.hid e1
        clear e1
        go_wp2_with fail
        (with_reducible refine hcon.mono ?_)
        rintro _ w1 ⟨rfl, rfl⟩
        go_wp2_with fail
        go_roundw
        case rel => exact ⟨by first | rfl | trivial, .inr (.inl ⟨rfl, Lib.hid HN2.out⟩)⟩
        case measure => simp [intOf]
    · have hcon := Tryz.strconv_Itoa_small 2 (by omega) wr
      have hd : Lib.decDigits 2 = [50] := by rw [Lib.decDigits_one (by decide)]; rfl
      rw [hd] at hcon
      simp only [Int.ofNat_eq_natCast, Int.cast_ofNat_Int] at hcon
      have hcat : ((⟨u.toArray⟩ : ByteArray) ++ ⟨#[50]⟩) = ⟨(u ++ [50]).toArray⟩ := cat_is u [50]
      have z1 : ¬ 9223372036854775807 < u.length + 1 := by omega
      by_cases e1 : s = u ++ [50]
      · have hR : sizedR s u = 2 := by rw [HR.out, if_neg HN.out, if_pos e1]
        have HRR := Lib.hid hR
        have hq : (s == u ++ [50]) = true := by simpa using e1
        clear e1 hR
        go_wp2_with fail
        (with_reducible refine hcon.mono ?_)
        rintro _ w1 ⟨rfl, rfl⟩
        go_wp2_with fail
        go_ret
        exact ⟨by rw [HRR.out]; rfl, rfl⟩
      · have hq : (s == u ++ [50]) = false := by simpa using e1
        have HN2 := Lib.hid e1
        clear e1
        go_wp2_with fail
        (with_reducible refine hcon.mono ?_)
        rintro _ w1 ⟨rfl, rfl⟩
        go_wp2_with fail
        go_roundw
        case rel => exact ⟨by first | rfl | trivial, .inr (.inr (.inl ⟨rfl, Lib.hid ⟨HN.out, HN2.out⟩⟩))⟩
        case measure => simp [intOf]
    · have hcon := Tryz.strconv_Itoa_small 4 (by omega) wr
      have hd : Lib.decDigits 4 = [52] := by rw [Lib.decDigits_one (by decide)]; rfl
      rw [hd] at hcon
      simp only [Int.ofNat_eq_natCast, Int.cast_ofNat_Int] at hcon
      have hcat : ((⟨u.toArray⟩ : ByteArray) ++ ⟨#[52]⟩) = ⟨(u ++ [52]).toArray⟩ := cat_is u [52]
      have z1 : ¬ 9223372036854775807 < u.length + 1 := by omega
      by_cases e1 : s = u ++ [52]
      · have hR : sizedR s u = 4 := by rw [HR.out, if_neg HN.out.1, if_neg HN.out.2, if_pos e1]
        have HRR := Lib.hid hR
        have hq : (s == u ++ [52]) = true := by simpa using e1
        clear e1 hR
        go_wp2_with fail
        (with_reducible refine hcon.mono ?_)
        rintro _ w1 ⟨rfl, rfl⟩
        go_wp2_with fail
        go_ret
        exact ⟨by rw [HRR.out]; rfl, rfl⟩
      · have hq : (s == u ++ [52]) = false := by simpa using e1
        have HN2 := Lib.hid e1
        clear e1
        go_wp2_with fail
        (with_reducible refine hcon.mono ?_)
        rintro _ w1 ⟨rfl, rfl⟩
        go_wp2_with fail
        go_roundw
        case rel => exact ⟨by first | rfl | trivial, .inr (.inr (.inr (.inl ⟨rfl, Lib.hid ⟨HN.out.1, HN.out.2, HN2.out⟩⟩)))⟩
        case measure => simp [intOf]
    · have hcon := Tryz.strconv_Itoa_small 8 (by omega) wr
      have hd : Lib.decDigits 8 = [56] := by rw [Lib.decDigits_one (by decide)]; rfl
      rw [hd] at hcon
      simp only [Int.ofNat_eq_natCast, Int.cast_ofNat_Int] at hcon
      have hcat : ((⟨u.toArray⟩ : ByteArray) ++ ⟨#[56]⟩) = ⟨(u ++ [56]).toArray⟩ := cat_is u [56]
      have z1 : ¬ 9223372036854775807 < u.length + 1 := by omega
      by_cases e1 : s = u ++ [56]
      · have hR : sizedR s u = 8 := by rw [HR.out, if_neg HN.out.1, if_neg HN.out.2.1, if_neg HN.out.2.2, if_pos e1]
        have HRR := Lib.hid hR
        have hq : (s == u ++ [56]) = true := by simpa using e1
        clear e1 hR
        go_wp2_with fail
        (with_reducible refine hcon.mono ?_)
        rintro _ w1 ⟨rfl, rfl⟩
        go_wp2_with fail
        go_ret
        exact ⟨by rw [HRR.out]; rfl, rfl⟩
      · have hq : (s == u ++ [56]) = false := by simpa using e1
        have HN2 := Lib.hid e1
        clear e1
        go_wp2_with fail
        (with_reducible refine hcon.mono ?_)
        rintro _ w1 ⟨rfl, rfl⟩
        go_wp2_with fail
        go_roundw
        case rel => exact ⟨by first | rfl | trivial, .inr (.inr (.inr (.inr ⟨rfl, Lib.hid ⟨HN.out.1, HN.out.2.1, HN.out.2.2, HN2.out⟩⟩)))⟩
        case measure => simp [intOf]
    · have hR : sizedR s u = 0 := by rw [HR.out, if_neg HN.out.1, if_neg HN.out.2.1, if_neg HN.out.2.2.1, if_neg HN.out.2.2.2]
      have HRR := Lib.hid hR
      clear hR
      go_wp2_with fail
      go_ret
      exact ⟨by rw [HRR.out]; rfl, rfl⟩
end Go.Proofs.YtjebjninlejoeaaGreatDoor
