/- text, the document's walk: the tokens of a line. text, the document's walk: the lines of a text. text, the document's walk: where a mark stands; the parts of Right. -/
import Derived.Test.YtjebjninlejoeaaGreatDoorZL
import Derived.Test.YtjebjninlejoeaaGreatDoorZJ
namespace Go.Proofs.YtjebjninlejoeaaGreatDoor
open Go.RowKit Go.Maps Go.ChangeMaps
set_option linter.unusedVariables false
set_option linter.unusedSimpArgs false
set_option linter.unusedSectionVars false
set_option maxRecDepth 100000

/-- Tokens that have been found. -/
structure TkI (w : World) (acc : List Nm) (v : Value) (W : World) : Prop where
  own : W.ownsRow w.heap.size 9 1 v acc.length (acc.map nmV)
  low : Below w.heap.size w W
/-- What the document's tokens tell. -/
def TkR (w : World) (r : Option (List Nm)) (x : Ending) (w' : World) : Prop :=
  Below w.heap.size w w' ∧ match r with
  | none => x = .returned (.tuple #[.slice none 0 0, .bool false])
  | some l => ∃ v, x = .returned (.tuple #[v, .bool true]) ∧ w'.ownsRow w.heap.size 9 1 v l.length (l.map nmV)
theorem TkR.ok {w w' : World} {r : Option (List Nm)} {l : List Nm} {v : Value} (h : r = some l) (hi : TkI w l v w') : TkR w r (.returned (.tuple #[v, .bool true])) w' := by
  subst h
  exact ⟨hi.low, v, rfl, hi.own⟩
theorem TkR.none {w w' : World} {r : Option (List Nm)} (h : r = Option.none) (hb : Below w.heap.size w w') : TkR w r (.returned (.tuple #[.slice Option.none 0 0, .bool false])) w' := by
  subst h
  exact ⟨hb, rfl⟩
theorem ext_mid (l : List UInt8) (k e : Nat) : ((⟨l.toArray⟩ : ByteArray).extract k e) = ⟨((l.drop k).take (e - k)).toArray⟩ := by
  apply Go.WideShapes.bytes_inj
  simp [List.take_drop]
theorem toks_end : toks [] = some [] := by simp [toks, toksA, flush]
theorem toks_hash0 (r : Nm) : toks (35 :: r) = some [] := by simp [toks, toksA, flush]
/-- A slice's middle is a word, and what comes behind it is none. -/
theorem seg_split (s : Nm) (k e : Nat) (hk : k < e) (he : e ≤ s.length) (h1 : ∀ j (_ : k ≤ j) (_ : j < e), ∀ c, s[j]? = some c → wordC c = true) (h2 : ∀ c, s[e]? = some c → wordC c = false) : toks (s.drop k) = (toks (s.drop e)).map ([(s.drop k).take (e - k)] ++ ·) := by
  have e1 : s.drop k = (s.drop k).take (e - k) ++ s.drop e := by
    have := List.take_append_drop (e - k) (s.drop k)
    rw [List.drop_drop, show k + (e - k) = e by omega] at this
    exact this.symm
  have hw : ((s.drop k).take (e - k)).all wordC = true := by
    rw [List.all_eq_true]
    intro c hc
    obtain ⟨j, hj, ex⟩ := List.mem_iff_getElem.1 hc
    rw [List.length_take, List.length_drop] at hj
    rw [List.getElem_take, List.getElem_drop] at ex
    exact h1 (k + j) (by omega) (by omega) c (by rw [← ex, List.getElem?_eq_getElem])
  have h0 : (s.drop k).take (e - k) ≠ [] := by
    intro q
    have := congrArg List.length q
    simp at this
    omega
  conv => lhs; rw [e1]
  exact toks_word _ _ hw h0 (by intro c hc; rw [List.head?_drop] at hc; exact h2 c hc)
set_option maxHeartbeats 2000000 in
theorem rtokens_any (s : Nm) (hs : s.length ≤ 1000000) (w : World) : Calls Tryz.prog 72 #[.string ⟨s.toArray⟩] w fun x w' => TkR w (toks s) x w' := by
  have hx : (((⟨s.toArray⟩ : ByteArray).size : Nat) : Int) = (s.length : Int) := by show ((s.toArray.size : Nat) : Int) = _; simp
  have HS := Lib.hid hs
  go_enter Tryz.func72, Tryz.ntmps72
  go_wp2_with fail
  go_loopw [4, 5] (fun v i wr => ∃ (k : Nat) (acc : List Nm), k ≤ s.length ∧ i = .int .i64 k ∧ Hid (toks s = (toks (s.drop k)).map (acc ++ ·)) ∧ Hid (acc.length ≤ k) ∧ Hid (TkI w acc v wr)) (fun _ i _ => s.length - (intOf i).toNat)
  case atStart => exact ⟨0, [], Nat.zero_le _, rfl, Lib.hid (by cases h : toks s <;> simp [h]), Lib.hid (Nat.le_refl _), Lib.hid ⟨World.ownsRow_nil _ _ _ _, Below.refl _ _⟩⟩
  case round =>
    obtain ⟨k, acc, hk, rfl, HT, HA, HI⟩ := hrel
    by_cases hlt : k < s.length
    · have d1 : decide ((k : Int) < (s.length : Int)) = true := decide_eq_true (by omega)
      have hix := idx_str s k hlt
      have hcs : s.drop k = s[k] :: s.drop (k + 1) := List.drop_eq_getElem_cons hlt
      have hck : s[k]? = some s[k] := List.getElem?_eq_getElem hlt
      generalize s[k] = c at *
      have HC := Lib.hid hcs
      have HK := Lib.hid hck
      clear hcs hck
      by_cases h35 : c = 35
      · have q1 : (c.toNat : Int) = 35 := by rw [h35]; rfl
        have HR := Lib.hid (show toks s = some acc by rw [HT.out, HC.out, h35, toks_hash0]; simp)
        clear h35
        generalize ((c.toNat : Nat) : Int) = cv at *
        subst q1
        go_wp2_with fail
        go_ret2
        exact TkR.ok HR.out HI.out
      have q1 : ¬ (c.toNat : Int) = 35 := fun e => h35 (UInt8.toNat.inj (by show c.toNat = 35; omega))
      by_cases hbl : blankC c = true
      · have HR := Lib.hid (show toks s = (toks (s.drop (k + 1))).map (acc ++ ·) by rw [HT.out, HC.out, toks_head hbl])
        have hb3 : (c.toNat : Int) = 9 ∨ (c.toNat : Int) = 13 ∨ (c.toNat : Int) = 32 := by
          unfold blankC at hbl
          simp at hbl
          rcases hbl with (h | h) | h <;> subst h
          · exact .inl rfl
          · exact .inr (.inl rfl)
          · exact .inr (.inr rfl)
        clear hbl HC HK
        generalize ((c.toNat : Nat) : Int) = cv at *
        rcases hb3 with q | q | q
        all_goals
          subst q
          go_wp2_with fail
          go_roundw
          case rel => exact ⟨k + 1, acc, by omega, by go_num, HR, Lib.hid (by have := HA.out; omega), HI⟩
          case measure => simp [intOf]; omega
      · have hbf : blankC c = false := by simpa using hbl
        have q9 : ¬ (c.toNat : Int) = 9 := fun e => by
          have : c = 9 := UInt8.toNat.inj (by show c.toNat = 9; omega)
          subst this; exact absurd hbf (by decide)
        have q13 : ¬ (c.toNat : Int) = 13 := fun e => by
          have : c = 13 := UInt8.toNat.inj (by show c.toNat = 13; omega)
          subst this; exact absurd hbf (by decide)
        have q32 : ¬ (c.toNat : Int) = 32 := fun e => by
          have : c = 32 := UInt8.toNat.inj (by show c.toNat = 32; omega)
          subst this; exact absurd hbf (by decide)
        have v9 : (((c.toNat : Nat) : Int) == 9) = false := by simpa using q9
        have v13 : (((c.toNat : Nat) : Int) == 13) = false := by simpa using q13
        have v32 : (((c.toNat : Nat) : Int) == 32) = false := by simpa using q32
        have hwo := wordy_any c
        have hsi := signy_any c
        have HBF := Lib.hid hbf
        have H35 := Lib.hid h35
        clear hbl hbf h35
        by_cases hw : wordC c = true
        · rw [hw] at hwo
          have HW := Lib.hid hw
          clear hw hsi
          generalize ((c.toNat : Nat) : Int) = cv at *
          go_wp2_with fail
          (with_reducible refine (hwo _).mono ?_)
          rintro _ w3 ⟨rfl, rfl⟩
          clear hwo hix q1 q9 q13 q32 v9 v13 v32
          go_wp2_with fail
          go_loopw [7] (fun i wx => ∃ e : Nat, k + 1 ≤ e ∧ e ≤ s.length ∧ i = .int .i64 e ∧ wx = w3 ∧ Hid (∀ j (_ : k ≤ j) (_ : j < e), ∀ c, s[j]? = some c → wordC c = true)) (fun i _ => s.length - (intOf i).toNat)
          case atStart => exact ⟨k + 1, Nat.le_refl _, by omega, by go_num, rfl, Lib.hid (fun j h1 h2 d hd => by
            obtain rfl : j = k := by omega
            rw [HK.out] at hd
            injection hd with hd
            rw [← hd]; exact HW.out)⟩
          case round =>
            obtain ⟨e, he1, he2, rfl, rfl, HWD⟩ := hrel
            by_cases hle : e < s.length
            · have d2 : decide ((e : Int) < (s.length : Int)) = true := decide_eq_true (by omega)
              have hix := idx_str s e hle
              have hcd : s[e]? = some s[e] := List.getElem?_eq_getElem hle
              have hwo := wordy_any s[e]
              by_cases hwe : wordC s[e] = true
              · rw [hwe] at hwo
                have HN := Lib.hid (show ∀ j (_ : k ≤ j) (_ : j < e + 1), ∀ c, s[j]? = some c → wordC c = true from fun j h1 h2 d hd => by
                  by_cases q : j = e
                  · subst q; rw [hcd] at hd; injection hd with hd; rw [← hd]; exact hwe
                  · exact HWD.out j h1 (by omega) d hd)
                clear hwe hcd
                generalize ((s[e].toNat : Nat) : Int) = ev at *
                go_wp2_with fail
                (with_reducible refine (hwo _).mono ?_)
                rintro _ w5 ⟨rfl, rfl⟩
                go_wp2_with fail
                go_roundw
                case rel => exact ⟨e + 1, by omega, by omega, by go_num, by first | rfl | trivial, HN⟩
                case measure => simp [intOf]; omega
              · have hwf : wordC s[e] = false := by simpa using hwe
                rw [hwf] at hwo
                have HEND := Lib.hid (show ∀ d, s[e]? = some d → wordC d = false from fun d hd => by rw [hcd] at hd; injection hd with hd; rw [← hd]; exact hwf)
                clear hwe hwf hcd
                generalize ((s[e].toNat : Nat) : Int) = ev at *
                go_wp2_with fail
                (with_reducible refine (hwo _).mono ?_)
                rintro _ w5 ⟨rfl, rfl⟩
                have HSEG := Lib.hid (seg_split s k e (by omega) he2 HWD.out HEND.out)
                clear hwo hix HWD HEND
                obtain ⟨i0, hi0, hz0, hz1, hz2⟩ := info_str
                have hown := owns_keep HI.out.own fun g hg => ((Below.refl w5.heap.size w5).alloc (Nat.le_refl _) (.cells #[.string ((⟨s.toArray⟩ : ByteArray).extract k e)] 9)).block g (HI.out.own.lt g hg).2
                have hny := news_new w5 [.string ((⟨s.toArray⟩ : ByteArray).extract k e)] 9
                have hlow := HI.out.low.alloc HI.out.low.size (.cells #[.string ((⟨s.toArray⟩ : ByteArray).extract k e)] 9)
                have g1 : (0 : Int) ≤ (k : Int) := by omega
                have g2 : (k : Int) ≤ (e : Nat) := by omega
                have g3 : ((e : Nat) : Int) ≤ (s.length : Int) := by omega
                have hac : acc.length ≤ 1000000 := by have := HA.out; have := HS.out; omega
                go_wp2_with (at_builtin; go_loud (refine wpList_append_ownA (by rfl) (.tmp 55) (.tmp 60) 45 (by rfl) w.heap.size 9 i0 _ 1 16 Tryz.underlying45 hi0 hz0 hz1 hz2 rfl (by decide) _ acc.length (acc.map nmV) (by rfl) hown (some ⟨w5.heap.size, 0, none⟩) 1 1 [.string ((⟨s.toArray⟩ : ByteArray).extract k e)] (by rfl) rfl (fun e => by cases e) (fun ad e => by injection e with e; subst e; exact hny) (by intro x hx; simp at hx; subst hx; rfl) (by unfold maxLen; omega) (by omega) hlow.size ?_); intro v7 w7 hr7 hg7)
                have hlow7 := hlow.grown hg7 hlow.size (fun g e => (hown.lt g e).1)
                rw [ext_mid] at hr7
                have HI7 := Lib.hid (show TkI w (acc ++ [(s.drop k).take (e - k)]) v7 w7 from ⟨by simpa [nmV] using hr7, hlow7⟩)
                have HT7 := Lib.hid (show toks s = (toks (s.drop e)).map ((acc ++ [(s.drop k).take (e - k)]) ++ ·) by rw [HT.out, HSEG.out, map_app])
                clear hown hny hlow hr7 hg7 hlow7 HI HT
                go_wp2_with fail
                go_roundw
                case rel => exact ⟨e, _, by omega, by go_num, HT7, Lib.hid (by have := HA.out; simp; omega), HI7⟩
                case measure => simp [intOf]; omega
            · have d2 : decide ((e : Int) < (s.length : Int)) = false := decide_eq_false (by omega)
              have HEND := Lib.hid (show ∀ d, s[e]? = some d → wordC d = false from fun d hd => by rw [List.getElem?_eq_none (by omega)] at hd; cases hd)
              have HSEG := Lib.hid (seg_split s k e (by omega) he2 HWD.out HEND.out)
              clear HWD HEND
              obtain ⟨i0, hi0, hz0, hz1, hz2⟩ := info_str
              have hown := owns_keep HI.out.own fun g hg => ((Below.refl wr.heap.size wr).alloc (Nat.le_refl _) (.cells #[.string ((⟨s.toArray⟩ : ByteArray).extract k e)] 9)).block g (HI.out.own.lt g hg).2
              have hny := news_new wr [.string ((⟨s.toArray⟩ : ByteArray).extract k e)] 9
              have hlow := HI.out.low.alloc HI.out.low.size (.cells #[.string ((⟨s.toArray⟩ : ByteArray).extract k e)] 9)
              have g1 : (0 : Int) ≤ (k : Int) := by omega
              have g2 : (k : Int) ≤ (e : Nat) := by omega
              have g3 : ((e : Nat) : Int) ≤ (s.length : Int) := by omega
              have hac : acc.length ≤ 1000000 := by have := HA.out; have := HS.out; omega
              go_wp2_with (at_builtin; go_loud (refine wpList_append_ownA (by rfl) (.tmp 55) (.tmp 60) 45 (by rfl) w.heap.size 9 i0 _ 1 16 Tryz.underlying45 hi0 hz0 hz1 hz2 rfl (by decide) _ acc.length (acc.map nmV) (by rfl) hown (some ⟨wr.heap.size, 0, none⟩) 1 1 [.string ((⟨s.toArray⟩ : ByteArray).extract k e)] (by rfl) rfl (fun e => by cases e) (fun ad e => by injection e with e; subst e; exact hny) (by intro x hx; simp at hx; subst hx; rfl) (by unfold maxLen; omega) (by omega) hlow.size ?_); intro v7 w7 hr7 hg7)
              have hlow7 := hlow.grown hg7 hlow.size (fun g e => (hown.lt g e).1)
              rw [ext_mid] at hr7
              have HI7 := Lib.hid (show TkI w (acc ++ [(s.drop k).take (e - k)]) v7 w7 from ⟨by simpa [nmV] using hr7, hlow7⟩)
              have HT7 := Lib.hid (show toks s = (toks (s.drop e)).map ((acc ++ [(s.drop k).take (e - k)]) ++ ·) by rw [HT.out, HSEG.out, map_app])
              clear hown hny hlow hr7 hg7 hlow7 HI HT
              go_wp2_with fail
              go_roundw
              case rel => exact ⟨e, _, by omega, by go_num, HT7, Lib.hid (by have := HA.out; simp; omega), HI7⟩
              case measure => simp [intOf]; omega
        · have hwf : wordC c = false := by simpa using hw
          rw [hwf] at hwo
          have HW := Lib.hid hwf
          clear hw hwf
          by_cases hs' : signC c = true
          · rw [hs'] at hsi
            have HSEG := Lib.hid (show toks (s.drop k) = (toks (s.drop (k + 1))).map ([(s.drop k).take (k + 1 - k)] ++ ·) by
              rw [show k + 1 - k = 1 by omega, HC.out]
              exact toks_one c _ hs')
            clear hs'
            generalize ((c.toNat : Nat) : Int) = cv at *
            go_wp2_with fail
            (with_reducible refine (hwo _).mono ?_)
            rintro _ w3 ⟨rfl, rfl⟩
            go_wp2_with fail
            (with_reducible refine (hsi _).mono ?_)
            rintro _ w5 ⟨rfl, rfl⟩
            clear hwo hsi hix q1 q9 q13 q32 v9 v13 v32
            have he2 : k + 1 ≤ s.length := by omega
            obtain ⟨i0, hi0, hz0, hz1, hz2⟩ := info_str
            have hown := owns_keep HI.out.own fun g hg => ((Below.refl w5.heap.size w5).alloc (Nat.le_refl _) (.cells #[.string ((⟨s.toArray⟩ : ByteArray).extract k (k + 1))] 9)).block g (HI.out.own.lt g hg).2
            have hny := news_new w5 [.string ((⟨s.toArray⟩ : ByteArray).extract k (k + 1))] 9
            have hlow := HI.out.low.alloc HI.out.low.size (.cells #[.string ((⟨s.toArray⟩ : ByteArray).extract k (k + 1))] 9)
            have g1 : (0 : Int) ≤ (k : Int) := by omega
            have g2 : (k : Int) ≤ ((k + 1) : Nat) := by omega
            have g3 : (((k + 1) : Nat) : Int) ≤ (s.length : Int) := by omega
            have hac : acc.length ≤ 1000000 := by have := HA.out; have := HS.out; omega
            go_wp2_with (at_builtin; go_loud (refine wpList_append_ownA (by rfl) (.tmp 55) (.tmp 60) 45 (by rfl) w.heap.size 9 i0 _ 1 16 Tryz.underlying45 hi0 hz0 hz1 hz2 rfl (by decide) _ acc.length (acc.map nmV) (by rfl) hown (some ⟨w5.heap.size, 0, none⟩) 1 1 [.string ((⟨s.toArray⟩ : ByteArray).extract k (k + 1))] (by rfl) rfl (fun e => by cases e) (fun ad e => by injection e with e; subst e; exact hny) (by intro x hx; simp at hx; subst hx; rfl) (by unfold maxLen; omega) (by omega) hlow.size ?_); intro v7 w7 hr7 hg7)
            have hlow7 := hlow.grown hg7 hlow.size (fun g e => (hown.lt g e).1)
            rw [ext_mid] at hr7
            have HI7 := Lib.hid (show TkI w (acc ++ [(s.drop k).take ((k + 1) - k)]) v7 w7 from ⟨by simpa [nmV] using hr7, hlow7⟩)
            have HT7 := Lib.hid (show toks s = (toks (s.drop (k + 1))).map ((acc ++ [(s.drop k).take ((k + 1) - k)]) ++ ·) by rw [HT.out, HSEG.out, map_app])
            clear hown hny hlow hr7 hg7 hlow7 HI HT
            go_wp2_with fail
            go_roundw
            case rel => exact ⟨(k + 1), _, by omega, by go_num, HT7, Lib.hid (by have := HA.out; simp; omega), HI7⟩
            case measure => simp [intOf]; omega
          · have hsf : signC c = false := by simpa using hs'
            rw [hsf] at hsi
            have HR := Lib.hid (show toks s = none by rw [HT.out, HC.out, toks_bad c _ HW.out HBF.out hsf H35.out]; rfl)
            clear hs' hsf
            generalize ((c.toNat : Nat) : Int) = cv at *
            go_wp2_with fail
            (with_reducible refine (hwo _).mono ?_)
            rintro _ w3 ⟨rfl, rfl⟩
            go_wp2_with fail
            (with_reducible refine (hsi _).mono ?_)
            rintro _ w3 ⟨rfl, rfl⟩
            go_wp2_with fail
            go_ret2
            exact TkR.none HR.out HI.out.low
    · have d1 : decide ((k : Int) < (s.length : Int)) = false := decide_eq_false (by omega)
      have HR := Lib.hid (show toks s = some acc by rw [HT.out, List.drop_eq_nil_of_le (by omega), toks_end]; simp)
      go_wp2_with fail
      go_ret2
      exact TkR.ok HR.out HI.out
end Go.Proofs.YtjebjninlejoeaaGreatDoor
namespace Go.Proofs.YtjebjninlejoeaaGreatDoor
open Go.RowKit Go.Maps Go.ChangeMaps
set_option linter.unusedVariables false
set_option linter.unusedSimpArgs false
set_option linter.unusedSectionVars false
set_option maxRecDepth 100000

theorem seg_push (s : Nm) (f k : Nat) (hf : f ≤ k) (hk : k < s.length) : (s.drop f).take (k + 1 - f) = (s.drop f).take (k - f) ++ [s[k]] := by
  rw [show k + 1 - f = (k - f) + 1 by omega, List.take_add_one, List.getElem?_drop, show f + (k - f) = k by omega, List.getElem?_eq_getElem hk]
  rfl
set_option maxHeartbeats 2000000 in
theorem rlines_any (s : Nm) (hs : s.length ≤ 1000000) (w : World) : Calls Tryz.prog 71 #[.string ⟨s.toArray⟩] w fun x w' => ∃ v, x = .returned v ∧ TkI w (linesP s) v w' := by
  have hx : (((⟨s.toArray⟩ : ByteArray).size : Nat) : Int) = (s.length : Int) := by show ((s.toArray.size : Nat) : Int) = _; simp
  have HS := Lib.hid hs
  go_enter Tryz.func71, Tryz.ntmps71
  go_wp2_with fail
  go_loopw [3, 4, 5] (fun v fv i wr => ∃ (f k : Nat) (acc : List Nm), f ≤ k ∧ k ≤ s.length ∧ fv = .int .i64 f ∧ i = .int .i64 k ∧ Hid (linesP s = acc ++ linesA ((s.drop f).take (k - f)) (s.drop k)) ∧ Hid (acc.length ≤ k) ∧ Hid (TkI w acc v wr)) (fun _ _ i _ => s.length - (intOf i).toNat)
  case atStart => exact ⟨0, 0, [], Nat.le_refl _, Nat.zero_le _, rfl, rfl, Lib.hid (by simp [linesP]), Lib.hid (Nat.le_refl _), Lib.hid ⟨World.ownsRow_nil _ _ _ _, Below.refl _ _⟩⟩
  case round =>
    obtain ⟨f, k, acc, hf, hk, rfl, rfl, HT, HA, HI⟩ := hrel
    by_cases hlt : k < s.length
    · have d1 : decide ((k : Int) < (s.length : Int)) = true := decide_eq_true (by omega)
      have hix := idx_str s k hlt
      have hcs : s.drop k = s[k] :: s.drop (k + 1) := List.drop_eq_getElem_cons hlt
      have hpu := seg_push s f k hf hlt
      generalize s[k] = c at *
      by_cases h10 : c = 10
      · have q1 : (c.toNat : Int) = 10 := by rw [h10]; rfl
        have HSEG := Lib.hid (show linesP s = (acc ++ [(s.drop f).take (k - f)]) ++ linesA ((s.drop (k + 1)).take (k + 1 - (k + 1))) (s.drop (k + 1)) by
          rw [HT.out, hcs, linesA, if_pos h10, List.append_assoc]
          simp)
        clear h10 hcs hpu HT
        generalize ((c.toNat : Nat) : Int) = cv at *
        subst q1
        have he2 : k ≤ s.length := hk
        obtain ⟨i0, hi0, hz0, hz1, hz2⟩ := info_str
        have hown := owns_keep HI.out.own fun g hg => ((Below.refl wr.heap.size wr).alloc (Nat.le_refl _) (.cells #[.string ((⟨s.toArray⟩ : ByteArray).extract f k)] 9)).block g (HI.out.own.lt g hg).2
        have hny := news_new wr [.string ((⟨s.toArray⟩ : ByteArray).extract f k)] 9
        have hlow := HI.out.low.alloc HI.out.low.size (.cells #[.string ((⟨s.toArray⟩ : ByteArray).extract f k)] 9)
        have g1 : (0 : Int) ≤ (f : Int) := by omega
        have g2 : (f : Int) ≤ (k : Nat) := by omega
        have g3 : ((k : Nat) : Int) ≤ (s.length : Int) := by omega
        have hac : acc.length ≤ 1000000 := by have := HA.out; have := HS.out; omega
        go_wp2_with (at_builtin; go_loud (refine wpList_append_ownA (by rfl) (.tmp 16) (.tmp 21) 45 (by rfl) w.heap.size 9 i0 _ 1 16 Tryz.underlying45 hi0 hz0 hz1 hz2 rfl (by decide) _ acc.length (acc.map nmV) (by rfl) hown (some ⟨wr.heap.size, 0, none⟩) 1 1 [.string ((⟨s.toArray⟩ : ByteArray).extract f k)] (by rfl) rfl (fun e => by cases e) (fun ad e => by injection e with e; subst e; exact hny) (by intro x hx; simp at hx; subst hx; rfl) (by unfold maxLen; omega) (by omega) hlow.size ?_); intro v7 w7 hr7 hg7)
        have hlow7 := hlow.grown hg7 hlow.size (fun g e => (hown.lt g e).1)
        rw [ext_mid] at hr7
        have HI7 := Lib.hid (show TkI w (acc ++ [(s.drop f).take (k - f)]) v7 w7 from ⟨by simpa [nmV] using hr7, hlow7⟩)
        clear hown hny hlow hr7 hg7 hlow7 HI
        go_wp2_with fail
        go_roundw
        case rel => exact ⟨k + 1, k + 1, _, Nat.le_refl _, by omega, by go_num, by go_num, HSEG, Lib.hid (by have := HA.out; simp; omega), HI7⟩
        case measure => simp [intOf]; omega
      · have q1 : ¬ (c.toNat : Int) = 10 := fun e => h10 (UInt8.toNat.inj (by show c.toNat = 10; omega))
        have v1 : (((c.toNat : Nat) : Int) == 10) = false := by simpa using q1
        have HSEG := Lib.hid (show linesP s = acc ++ linesA ((s.drop f).take (k + 1 - f)) (s.drop (k + 1)) by
          rw [HT.out, hcs, linesA, if_neg h10, hpu])
        clear h10 hcs hpu HT
        generalize ((c.toNat : Nat) : Int) = cv at *
        go_wp2_with fail
        go_roundw
        case rel => exact ⟨f, k + 1, acc, by omega, by omega, rfl, by go_num, HSEG, Lib.hid (by have := HA.out; omega), HI⟩
        case measure => simp [intOf]; omega
    · have d1 : decide ((k : Int) < (s.length : Int)) = false := decide_eq_false (by omega)
      have hke : k = s.length := by omega
      have HSEG := Lib.hid (show linesP s = acc ++ [(s.drop f).take (s.length - f)] by
        rw [HT.out, hke, List.drop_length]
        simp [linesA])
      clear HT
      obtain ⟨i0, hi0, hz0, hz1, hz2⟩ := info_str
      have hown := owns_keep HI.out.own fun g hg => ((Below.refl wr.heap.size wr).alloc (Nat.le_refl _) (.cells #[.string ((⟨s.toArray⟩ : ByteArray).extract f s.length)] 9)).block g (HI.out.own.lt g hg).2
      have hny := news_new wr [.string ((⟨s.toArray⟩ : ByteArray).extract f s.length)] 9
      have hlow := HI.out.low.alloc HI.out.low.size (.cells #[.string ((⟨s.toArray⟩ : ByteArray).extract f s.length)] 9)
      have g1 : (0 : Int) ≤ (f : Int) := by omega
      have g2 : (f : Int) ≤ (s.length : Nat) := by omega
      have g3 : ((s.length : Nat) : Int) ≤ (s.length : Int) := by omega
      have hac : acc.length ≤ 1000000 := by have := HA.out; have := HS.out; omega
      go_wp2_with (at_builtin; go_loud (refine wpList_append_ownA (by rfl) (.tmp 25) (.tmp 29) 45 (by rfl) w.heap.size 9 i0 _ 1 16 Tryz.underlying45 hi0 hz0 hz1 hz2 rfl (by decide) _ acc.length (acc.map nmV) (by rfl) hown (some ⟨wr.heap.size, 0, none⟩) 1 1 [.string ((⟨s.toArray⟩ : ByteArray).extract f s.length)] (by rfl) rfl (fun e => by cases e) (fun ad e => by injection e with e; subst e; exact hny) (by intro x hx; simp at hx; subst hx; rfl) (by unfold maxLen; omega) (by omega) hlow.size ?_); intro v7 w7 hr7 hg7)
      have hlow7 := hlow.grown hg7 hlow.size (fun g e => (hown.lt g e).1)
      rw [ext_mid] at hr7
      have HI7 := Lib.hid (show TkI w (acc ++ [(s.drop f).take (s.length - f)]) v7 w7 from ⟨by simpa [nmV] using hr7, hlow7⟩)
      clear hown hny hlow hr7 hg7 hlow7 HI
      go_wp2_with fail
      go_ret
      refine ⟨_, rfl, ?_⟩
      rw [HSEG.out]
      exact HI7.out
end Go.Proofs.YtjebjninlejoeaaGreatDoor
namespace Go.Proofs.YtjebjninlejoeaaGreatDoor
open Go.RowKit Go.Maps Go.ChangeMaps
set_option linter.unusedVariables false
set_option linter.unusedSimpArgs false
set_option linter.unusedSectionVars false
set_option maxRecDepth 100000

def mkC (l : List (Nm × Nat)) : List Value := l.flatMap fun p => [nmV p.1, .int .i64 p.2]
theorem mkC_len (l : List (Nm × Nat)) : (mkC l).length = l.length * 2 := by
  induction l with
  | nil => rfl
  | cons i l ih => simp only [mkC, List.flatMap_cons, List.length_append, List.length_cons] at ih ⊢; rw [ih]; simp; omega
theorem mkC_push (l : List (Nm × Nat)) (p : Nm × Nat) : mkC (l ++ [p]) = mkC l ++ [nmV p.1, .int .i64 p.2] := by simp [mkC]
theorem mk_at {w : World} {D g c : Nat} {l : List (Nm × Nat)} {n : Nat} (h : w.ownsRow D 142 2 (.slice (some ⟨g, 0, none⟩) n c) n (mkC l)) (hn : l.length ≤ n) {k : Nat} {p : Nm × Nat} (hk : l[k]? = some p) :
    w.cell? ⟨g, k * 2, none⟩ = some (.string ⟨p.1.toArray⟩) ∧ w.cell? ⟨g, k * 2 + 1, none⟩ = some (.int .i64 p.2) := by
  have hlt : k < l.length := (List.getElem?_eq_some_iff.1 hk).1
  have f := fun m (hm : m < 2) => (h.cellAt (k * 2 + m) (by omega)).trans (flat_at (f := fun p : Nm × Nat => [nmV p.1, Value.int .i64 p.2]) (c := 2) (fun _ => rfl) l k p m hk hm)
  exact ⟨f 0 (by omega), f 1 (by omega)⟩
theorem hasM_head (l : List (Nm × Nat)) (s : Nm) (k : Nat) {p : Nm × Nat} (hk : l[k]? = some p) : hasM (l.drop k) s = if p.1 = s then some p.2 else hasM (l.drop (k + 1)) s := by
  have hlt : k < l.length := (List.getElem?_eq_some_iff.1 hk).1
  have e : l.drop k = p :: l.drop (k + 1) := by
    rw [List.drop_eq_getElem_cons hlt]
    rw [List.getElem?_eq_getElem hlt] at hk
    injection hk with hk
    rw [hk]
  rw [e]
  unfold hasM
  by_cases h : p.1 = s
  · simp [List.find?, h]
  · simp [List.find?, h]
def fndV (r : Option Nat) : Int := match r with | none => -1 | some k => (k : Int)
set_option maxHeartbeats 2000000 in
theorem rfind_any {D : Nat} {v : Value} {l : List (Nm × Nat)} (s : Nm) (w : World) (h : w.ownsRow D 142 2 v l.length (mkC l)) (hn : l.length ≤ 1000000) : Calls Tryz.prog 74 #[v, .string ⟨s.toArray⟩] w fun x w' => x = .returned (.int .i64 (fndV (hasM l s))) ∧ Below w.heap.size w w' := by
  obtain ⟨A, c, rfl⟩ := own_slice h
  have HO := Lib.hid h
  have HR : Hid (hasM l s = hasM (l.drop 0) s) := Lib.hid rfl
  clear h
  go_enter Tryz.func74, Tryz.ntmps74
  go_wp2_with fail
  go_loopw [5] (fun i wr => ∃ k : Nat, k ≤ l.length ∧ i = .int .i64 k ∧ Hid (Below w.heap.size w wr) ∧ Hid (hasM l s = hasM (l.drop k) s)) (fun i _ => l.length - (intOf i).toNat)
  case atStart => exact ⟨0, Nat.zero_le _, rfl, Lib.hid (Below.refl _ _), HR⟩
  case round =>
    obtain ⟨k, hk, rfl, HB, HE⟩ := hrel
    by_cases hlt : k < l.length
    · have d1 : decide ((k : Int) < (l.length : Int)) = true := decide_eq_true (by omega)
      obtain ⟨p, hp⟩ : ∃ p, l[k]? = some p := ⟨l[k], List.getElem?_eq_getElem hlt⟩
      have HS := Lib.hid (hasM_head l s k hp)
      have ho := own_keep HO.out fun g hg => HB.out.block g (HO.out.lt g hg).2
      obtain ⟨g, c', e⟩ := own_form ho (by omega)
      injection e with e1 e2 e3
      subst e1 e3
      obtain ⟨m1, m2⟩ := mk_at ho (Nat.le_refl _) hp
      have HBD := Lib.hid HB.out.drew
      have q1 : (0 : Int) ≤ (k : Int) := by omega
      have q2 : (k : Int) < (l.length : Int) := by omega
      clear hp ho
      obtain ⟨n, pk⟩ := p
      simp only at m1 m2 HS
      by_cases hs : n = s
      · have HR2 := Lib.hid (show hasM l s = some pk by rw [HE.out, HS.out, if_pos hs])
        have hq : (n == s) = true := by simpa using hs
        clear hs HS
        go_wp2_with fail
        go_ret
        refine ⟨by rw [HR2.out]; rfl, ?_⟩
        first | exact HB.out | exact HBD.out | exact HBD.out.drew
      · have HR2 := Lib.hid (show hasM l s = hasM (l.drop (k + 1)) s by rw [HE.out, HS.out, if_neg hs])
        have hq : (n == s) = false := by simpa using hs
        clear hs HS
        go_wp2_with fail
        go_roundw
        case rel => exact ⟨k + 1, by omega, by go_num, by first | exact HB | exact HBD | exact Lib.hid HBD.out.drew, HR2⟩
        case measure => simp [intOf]; omega
    · have d1 : decide ((k : Int) < (l.length : Int)) = false := decide_eq_false (by omega)
      have HR2 := Lib.hid (show hasM l s = none by rw [HE.out, List.drop_eq_nil_of_le (by omega)]; rfl)
      go_wp2_with fail
      go_ret
      refine ⟨by rw [HR2.out]; rfl, ?_⟩
      first | exact HB.out | exact HB.out.drew
theorem rtarget_any (n : Int) (w : World) : Calls Tryz.prog 105 #[.int .i64 n] w fun e w' => e = .returned (.bool (inI n 0 9)) ∧ w' = w := by
  unfold inI
  by_cases h1 : 0 ≤ n <;> by_cases h2 : n ≤ 9
  all_goals
    go_enter Tryz.func105, Tryz.ntmps105
    go_wp2_with fail
    go_ret
    refine ⟨?_, rfl⟩
    show Ending.returned (Value.bool _) = Ending.returned (Value.bool _)
    first
      | rfl
      | simp [h1, h2]
theorem rregister_any (n : Int) (w : World) : Calls Tryz.prog 107 #[.int .i64 n] w fun e w' => e = .returned (.bool (inI n 0 10)) ∧ w' = w := by
  unfold inI
  by_cases h1 : 0 ≤ n <;> by_cases h2 : n ≤ 10
  all_goals
    go_enter Tryz.func107, Tryz.ntmps107
    go_wp2_with fail
    go_ret
    refine ⟨?_, rfl⟩
    show Ending.returned (Value.bool _) = Ending.returned (Value.bool _)
    first
      | rfl
      | simp [h1, h2]
section
variable (op : Int) (nr : Bool) (d s : Int) (o m z : Int) (w : World)
theorem rfarI_any (u : Bool) : Calls Tryz.prog 108 #[.agg #[.int .u8 op, .bool nr, .int .i64 d, .int .i64 s, .bool u, .int .i64 o, .int .i64 m, .int .i64 z]] w fun e w' => e = .returned (.bool (farR ⟨op, nr, d, s, u, o, m, z⟩)) ∧ w' = w.alloc (.cells #[.int .u8 op, .bool nr, .int .i64 d, .int .i64 s, .bool u, .int .i64 o, .int .i64 m, .int .i64 z] 40) := by
  unfold farR inI
  by_cases h1 : -32768 ≤ o <;> by_cases h2 : o < 32768 <;> try (exfalso; omega)
  all_goals
    go_enter Tryz.func108, Tryz.ntmps108
    go_wp2_with fail
    go_ret
    refine ⟨?_, rfl⟩
    show Ending.returned (Value.bool _) = Ending.returned (Value.bool _)
    first
      | rfl
      | (simp [h1, h2]; done)
      | (have h3 : o ≤ 32767 := by omega
         simp [h1, h3]; done)
      | (have h3 : ¬ o ≤ 32767 := by omega
         simp [h1, h3])
theorem rsizedI_any (u : Bool) : Calls Tryz.prog 109 #[.agg #[.int .u8 op, .bool nr, .int .i64 d, .int .i64 s, .bool u, .int .i64 o, .int .i64 m, .int .i64 z]] w fun e w' => e = .returned (.bool (sizeR ⟨op, nr, d, s, u, o, m, z⟩)) ∧ w' = w.alloc (.cells #[.int .u8 op, .bool nr, .int .i64 d, .int .i64 s, .bool u, .int .i64 o, .int .i64 m, .int .i64 z] 40) := by
  unfold sizeR
  by_cases h1 : z = 1
  · subst h1
    go_enter Tryz.func109, Tryz.ntmps109
    go_wp2_with fail
    go_ret
    exact ⟨rfl, rfl⟩
  by_cases h2 : z = 2
  · subst h2
    go_enter Tryz.func109, Tryz.ntmps109
    go_wp2_with fail
    go_ret
    exact ⟨rfl, rfl⟩
  by_cases h3 : z = 4
  · subst h3
    go_enter Tryz.func109, Tryz.ntmps109
    go_wp2_with fail
    go_ret
    exact ⟨rfl, rfl⟩
  by_cases h4 : z = 8
  · subst h4
    go_enter Tryz.func109, Tryz.ntmps109
    go_wp2_with fail
    go_ret
    exact ⟨rfl, rfl⟩
  have e1 : (z == 1) = false := by simpa using h1
  have e2 : (z == 2) = false := by simpa using h2
  have e3 : (z == 4) = false := by simpa using h3
  have e4 : (z == 8) = false := by simpa using h4
  go_enter Tryz.func109, Tryz.ntmps109
  go_wp2_with fail
  go_ret
  exact ⟨by simp [h1, h2, h3, h4], rfl⟩
theorem rCond_any (u : Bool) : Calls Tryz.prog 110 #[.agg #[.int .u8 op, .bool nr, .int .i64 d, .int .i64 s, .bool u, .int .i64 o, .int .i64 m, .int .i64 z]] w fun e w' => e = .returned (.bool (inI op 17 27)) ∧ w' = w.alloc (.cells #[.int .u8 op, .bool nr, .int .i64 d, .int .i64 s, .bool u, .int .i64 o, .int .i64 m, .int .i64 z] 40) := by
  unfold inI
  by_cases h1 : 17 ≤ op <;> by_cases h2 : op ≤ 27 <;> try (exfalso; omega)
  all_goals
    go_enter Tryz.func110, Tryz.ntmps110
    go_wp2_with fail
    go_ret
    refine ⟨?_, rfl⟩
    show Ending.returned (Value.bool _) = Ending.returned (Value.bool _)
    first
      | rfl
      | simp [h1, h2]
theorem rsecI_any (u : Bool) : Calls Tryz.prog 106 #[.agg #[.int .u8 op, .bool nr, .int .i64 d, .int .i64 s, .bool u, .int .i64 o, .int .i64 m, .int .i64 z]] w fun e w' => e = .returned (.bool (secR ⟨op, nr, d, s, u, o, m, z⟩)) ∧ w' = w.alloc (.cells #[.int .u8 op, .bool nr, .int .i64 d, .int .i64 s, .bool u, .int .i64 o, .int .i64 m, .int .i64 z] 40) := by
  cases u with
  | true =>
    unfold secR inI
    by_cases h0 : s = 0 <;> by_cases h1 : -2147483648 ≤ m <;> by_cases h2 : m < 2147483648 <;> try (exfalso; omega)
    all_goals
      go_enter Tryz.func106, Tryz.ntmps106
      go_wp2_with fail
      go_ret
      refine ⟨?_, rfl⟩
      show Ending.returned (Value.bool _) = Ending.returned (Value.bool _)
      first
        | rfl
        | (have h3 : m ≤ 2147483647 := by omega
           simp [h0, h1, h3]; done)
        | (have h3 : ¬ m ≤ 2147483647 := by omega
           simp [h0, h1, h3])
  | false =>
    unfold secR
    by_cases h0 : inI s 0 10 = true
    · by_cases h1 : m = 0
      · go_enter Tryz.func106, Tryz.ntmps106
        go_wp2_with (go_at_call 107; (with_reducible refine (rregister_any _ _).mono ?_); rintro e w' ⟨rfl, rfl⟩)
        all_goals
          go_ret
          exact ⟨by simp [h0, h1], rfl⟩
      · have e1 : (m == 0) = false := by simpa using h1
        go_enter Tryz.func106, Tryz.ntmps106
        go_wp2_with (go_at_call 107; (with_reducible refine (rregister_any _ _).mono ?_); rintro e w' ⟨rfl, rfl⟩)
        all_goals
          go_ret
          exact ⟨by simp [h0, h1], rfl⟩
    · have h0' : inI s 0 10 = false := by simpa using h0
      go_enter Tryz.func106, Tryz.ntmps106
      go_wp2_with (go_at_call 107; (with_reducible refine (rregister_any _ _).mono ?_); rintro e w' ⟨rfl, rfl⟩)
      all_goals
        go_ret
        exact ⟨by simp [h0'], rfl⟩
end
end Go.Proofs.YtjebjninlejoeaaGreatDoor
