/- text, the plain law: what the library's functions say of lines and tokens. -/
import Derived.Test.YtjebjninlejoeaaGreatDoorP7
import Derived.Lib.Split
import Derived.Lib.SplitLaws
import Derived.Lib.SlTrimSet
import Derived.Lib.IndexMore
namespace Go.Proofs.YtjebjninlejoeaaGreatDoor
open Go.Lib
set_option linter.unusedVariables false
set_option linter.unusedSimpArgs false

theorem index_not : ∀ (s : List UInt8) (c : UInt8), c ∉ s → indexByte s c = -1
  | [], c, _ => rfl
  | b :: l, c, h => by
    have h1 : (b == c) = false := by simp; rintro rfl; simp at h
    have h2 := index_not l c (fun q => h (List.mem_cons_of_mem _ q))
    simp [indexByte, h1, h2]
theorem index_mid : ∀ (a b : List UInt8) (c : UInt8), c ∉ a → indexByte (a ++ c :: b) c = a.length
  | [], b, c, _ => by simp [indexByte]
  | d :: a, b, c, h => by
    have h1 : (d == c) = false := by simp; rintro rfl; simp at h
    have h2 := index_mid a b c (fun q => h (List.mem_cons_of_mem _ q))
    simp only [List.cons_append, indexByte, h1, h2]
    have : ((a.length : Int) == -1) = false := by simp
    simp [this]
theorem first_at : ∀ (s : List UInt8) (c : UInt8), c ∉ s ∨ ∃ a b, s = a ++ c :: b ∧ c ∉ a
  | [], c => .inl (by simp)
  | d :: s, c => by
    by_cases h : d = c
    · exact .inr ⟨[], s, by rw [h]; rfl, by simp⟩
    · rcases first_at s c with q | ⟨a, b, q, qa⟩
      · exact .inl (by simp; exact ⟨fun e => h e.symm, q⟩)
      · exact .inr ⟨d :: a, b, by rw [q]; rfl, by simp; exact ⟨fun e => h e.symm, qa⟩⟩
theorem lines_none {s : Nm} (h : (10 : UInt8) ∉ s) (cur : Nm) : linesA cur s = [cur ++ s] := by
  induction s generalizing cur with
  | nil => simp [linesA]
  | cons c s ih =>
    rw [linesA, if_neg (by rintro rfl; simp at h), ih (fun q => h (List.mem_cons_of_mem _ q))]
    simp
theorem split_lines : ∀ (k : Nat) (s : Nm), s.count 10 ≤ k → splitK [10] 0 k s = linesP s
  | 0, s, h => by
    have h0 : (10 : UInt8) ∉ s := List.count_eq_zero.1 (Nat.le_zero.1 h)
    rw [splitK]
    unfold linesP
    rw [lines_none h0]
    rfl
  | k + 1, s, h => by
    rw [splitK, index_one]
    rcases first_at s 10 with h0 | ⟨a, b, rfl, ha⟩
    · rw [index_not s 10 h0]
      unfold linesP
      rw [lines_none h0]
      rfl
    · have hc : b.count 10 ≤ k := by
        rw [List.count_append, List.count_cons_self] at h
        omega
      rw [index_mid a b 10 ha]
      have e : ((a.length : Int) == -1) = false := by simp
      rw [e]
      simp only [Bool.false_eq_true, if_false, Int.toNat_natCast, Nat.add_zero, List.length_singleton]
      rw [List.take_left, show List.drop (a.length + 1) (a ++ 10 :: b) = b by rw [show a ++ 10 :: b = (a ++ [10]) ++ b by simp, List.drop_left' (by simp)]]
      rw [split_lines k b hc]
      unfold linesP
      rw [linesA_app a [] b (fun c hc e => ha (e ▸ hc))]
      rfl
/-- strings.Split at a line's end. -/
theorem split_is (s : ByteArray) : splitB ⟨#[10]⟩ 0 (countB s ⟨#[10]⟩) s = (linesP s.data.toList).map fun l => (⟨l.toArray⟩ : ByteArray) := by
  have h := splitB_data ⟨#[10]⟩ 0 (countB s ⟨#[10]⟩) s
  have e : splitK [10] 0 (countB s ⟨#[10]⟩) s.data.toList = linesP s.data.toList := split_lines _ _ (by show s.data.toList.count 10 ≤ count s.data.toList [10]; rw [count_one]; exact Nat.le_refl _)
  have e2 : (⟨#[10]⟩ : ByteArray).data.toList = [10] := rfl
  rw [e2, e] at h
  rw [← h, List.map_map]
  have : (fun l : List UInt8 => (⟨l.toArray⟩ : ByteArray)) ∘ (fun x : ByteArray => x.data.toList) = id := by
    funext x
    cases x
    simp
  rw [this, List.map_id]
theorem count_is (s : ByteArray) : countB s ⟨#[10]⟩ = s.data.toList.count 10 := count_one 10 _
theorem lines_len (s : Nm) : (linesP s).length = s.count 10 + 1 := linesA_len s []
theorem lines_mem_ne : ∀ (s cur : Nm), (∀ c ∈ cur, c ≠ (10 : UInt8)) → ∀ l ∈ linesA cur s, ∀ c ∈ l, c ≠ (10 : UInt8)
  | [], cur, h, l, hl => by simp [linesA] at hl; subst hl; exact h
  | d :: s, cur, h, l, hl => by
    rw [linesA] at hl
    split at hl
    · rcases List.mem_cons.1 hl with rfl | hl
      · exact h
      · exact lines_mem_ne s [] (fun c hc => by cases hc) l hl
    · next hd =>
      exact lines_mem_ne s _ (fun c hc => by
        rcases List.mem_append.1 hc with q | q
        · exact h c q
        · simp at q; subst q; exact hd) l hl
theorem lines_short : ∀ (s cur : Nm), ∀ l ∈ linesA cur s, l.length ≤ cur.length + s.length
  | [], cur, l, hl => by simp [linesA] at hl; subst hl; simp
  | d :: s, cur, l, hl => by
    rw [linesA] at hl
    split at hl
    · rcases List.mem_cons.1 hl with rfl | hl
      · simp
      · have := lines_short s [] l hl; simp at this ⊢; omega
    · have := lines_short s _ l hl; simp at this ⊢; omega
/-- What a comment leaves. -/
theorem toks_hash : ∀ (a b cur : Nm), toksA cur (a ++ 35 :: b) = toksA cur a
  | [], b, cur => by simp [toksA]
  | c :: a, b, cur => by
    have ih := toks_hash a b
    rw [List.cons_append, toksA, toksA, ih, ih]
theorem toks_cut (s : Nm) : toks (cut s [35]).1 = toks s ∧ (35 : UInt8) ∉ (cut s [35]).1 ∧ (cut s [35]).1.length ≤ s.length := by
  unfold cut
  rw [index_one]
  rcases first_at s 35 with h0 | ⟨a, b, rfl, ha⟩
  · rw [index_not s 35 h0]
    exact ⟨rfl, h0, Nat.le_refl _⟩
  · rw [index_mid a b 35 ha, if_pos (by omega)]
    simp only [Int.toNat_natCast, List.take_left]
    exact ⟨(toks_hash a b []).symm, ha, by simp⟩
def blanks : List UInt8 := [32, 9, 13]
theorem blanks_iff (c : UInt8) : blanks.contains c = true ↔ blankC c = true := by
  unfold blanks blankC
  simp only [List.contains_cons, List.contains_nil, Bool.or_false, Bool.or_eq_true, beq_iff_eq, decide_eq_true_eq]
  constructor <;> rintro h <;> rcases h with h | h | h <;> simp_all
theorem toks_left : ∀ s : Nm, toks (trimLeftS s blanks) = toks s ∧ (trimLeftS s blanks).length ≤ s.length ∧ (∀ c, c ∈ trimLeftS s blanks → c ∈ s) ∧ (∀ c, (trimLeftS s blanks).head? = some c → blankC c = false)
  | [] => ⟨rfl, Nat.le_refl _, fun _ h => h, fun c h => by cases h⟩
  | c :: s => by
    unfold trimLeftS
    obtain ⟨h1, h2, h3, h4⟩ := toks_left s
    unfold trimLeftS at h1 h2 h3 h4
    by_cases hb : blankC c = true
    · rw [List.dropWhile_cons_of_pos ((blanks_iff c).2 hb)]
      exact ⟨by rw [h1, toks_head hb], Nat.le_succ_of_le h2, fun d hd => List.mem_cons_of_mem _ (h3 d hd), h4⟩
    · rw [List.dropWhile_cons_of_neg (fun q => hb ((blanks_iff c).1 q))]
      exact ⟨rfl, Nat.le_refl _, fun _ h => h, fun d hd => by injection hd with hd; subst hd; simpa using hb⟩
theorem toks_blanks : ∀ r : Nm, (∀ c ∈ r, blankC c = true) → toks r = some []
  | [], _ => rfl
  | c :: r, h => by
    rw [toks_head (h c (List.mem_cons_self ..))]
    exact toks_blanks r fun d hd => h d (List.mem_cons_of_mem _ hd)
theorem toks_tailB (s r : Nm) (h : ∀ c ∈ r, blankC c = true) : toks (s ++ r) = toks s := by
  cases r with
  | nil => simp
  | cons c r =>
    unfold toks
    exact toksA_tail (h c (List.mem_cons_self ..)) (toks_blanks r fun d hd => h d (List.mem_cons_of_mem _ hd)) s []
theorem dropWhile_split {α : Type} (p : α → Bool) : ∀ l : List α, ∃ t, l = t ++ l.dropWhile p ∧ ∀ x ∈ t, p x = true
  | [] => ⟨[], rfl, fun x h => by cases h⟩
  | a :: l => by
    by_cases h : p a = true
    · obtain ⟨t, h1, h2⟩ := dropWhile_split p l
      refine ⟨a :: t, ?_, fun x hx => ?_⟩
      · rw [List.dropWhile_cons_of_pos h, List.cons_append, ← h1]
      · rcases List.mem_cons.1 hx with rfl | hx
        · exact h
        · exact h2 x hx
    · exact ⟨[], by rw [List.dropWhile_cons_of_neg h]; rfl, fun x h => by cases h⟩
theorem toks_right (s : Nm) : toks (trimRightS s blanks) = toks s ∧ (∀ c, c ∈ trimRightS s blanks → c ∈ s) ∧ (trimRightS s blanks).length ≤ s.length := by
  unfold trimRightS
  obtain ⟨t, h1, h2⟩ := dropWhile_split (blanks.contains ·) s.reverse
  have e : s = (s.reverse.dropWhile (blanks.contains ·)).reverse ++ t.reverse := by
    have := congrArg List.reverse h1
    rw [List.reverse_reverse, List.reverse_append] at this
    exact this
  have hb : ∀ c ∈ t.reverse, blankC c = true := fun c hc => (blanks_iff c).1 (h2 c (List.mem_reverse.1 hc))
  generalize (s.reverse.dropWhile (blanks.contains ·)).reverse = u at *
  subst e
  exact ⟨(toks_tailB u _ hb).symm, fun c hc => List.mem_append_left _ hc, by simp⟩
theorem toks_trim (s : Nm) : toks (trimS s blanks) = toks s ∧ (∀ c, c ∈ trimS s blanks → c ∈ s) ∧ (∀ c, (trimS s blanks).head? = some c → blankC c = false) ∧ (trimS s blanks).length ≤ s.length := by
  unfold trimS
  obtain ⟨h1, h2, h3, h4⟩ := toks_left (trimRightS s blanks)
  obtain ⟨k1, k2, k3⟩ := toks_right s
  exact ⟨h1.trans k1, fun c hc => k2 c (h3 c hc), h4, by omega⟩
/-- A token at the head of what is left of a line. -/
theorem toks_word (w r : Nm) (h : w.all wordC = true) (h0 : w ≠ []) (hr : Nw r) : toks (w ++ r) = (toks r).map ([w] ++ ·) := wt_word h h0 r hr
theorem toks_one (c : UInt8) (r : Nm) (h : signC c = true) : toks (c :: r) = (toks r).map ([[c]] ++ ·) := zt_sign h r
theorem toks_bad (c : UInt8) (r : Nm) (h1 : wordC c = false) (h2 : blankC c = false) (h3 : signC c = false) (h4 : c ≠ 35) : toks (c :: r) = none := by
  unfold toks
  rw [toksA, if_neg h4]
  simp [h1, h2, h3]
def signs : List UInt8 := [44, 91, 93, 43, 45, 58]
theorem index_sign (c : UInt8) : decide (indexByte signs c < 0) = !signC c := by
  by_cases h : signC c = true
  · have : c = 44 ∨ c = 91 ∨ c = 93 ∨ c = 43 ∨ c = 45 ∨ c = 58 := by
      unfold signC at h
      simp only [Bool.or_eq_true, decide_eq_true_eq] at h
      rcases h with ((((h | h) | h) | h) | h) | h <;> simp [h]
    rcases this with rfl | rfl | rfl | rfl | rfl | rfl <;> decide
  · have h : signC c = false := by simpa using h
    rw [index_not signs c (fun hm => by
      have : ∀ x ∈ signs, signC x = true := by decide
      rw [this c hm] at h
      cases h), h]
    decide
end Go.Proofs.YtjebjninlejoeaaGreatDoor
