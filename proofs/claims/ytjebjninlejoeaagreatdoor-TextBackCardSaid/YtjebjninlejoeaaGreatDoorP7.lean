/- text, the plain law: two texts, one behind the other. -/
import Derived.Test.YtjebjninlejoeaaGreatDoorP6
namespace Go.Proofs.YtjebjninlejoeaaGreatDoor
open Go.Lib
set_option linter.unusedVariables false
set_option linter.unusedSimpArgs false

/-- What a line without labels says; none: a fault, or a label. -/
def lineT : Option (List Nm) → Option (Option IV)
  | none => none
  | some t => if t = [] then some none else if (markT t).isSome then none else match instP t with
    | some (i, to) => if to = [] ∧ rightP i = true then some (some i) else none
    | none => none
def lineR (s : List UInt8) : Option (Option IV) := lineT (toks s)
def outs (ss : List (List UInt8)) : List IV := ss.filterMap fun s => (lineR s).join
theorem toksA_mem : ∀ (s cur : Nm) (l : List Nm) (c : UInt8), toksA cur s = some l → (∃ t ∈ l, c ∈ t) → c ∈ cur ∨ c ∈ s
  | [], cur, l, c, h, ⟨t, ht, hc⟩ => by
    simp only [toksA, flush] at h
    split at h
    · injection h with h; subst h; cases ht
    · simp at h; subst h; simp at ht; subst ht; exact .inl hc
  | d :: s, cur, l, c, h, ⟨t, ht, hc⟩ => by
    have fl : ∀ r : Option (List Nm), flush cur r = some l → (∀ l', r = some l' → (∃ t ∈ l', c ∈ t) → c ∈ d :: s) → c ∈ cur ∨ c ∈ d :: s := by
      intro r hr hk
      unfold flush at hr
      split at hr
      · exact .inr (hk l hr ⟨t, ht, hc⟩)
      · obtain ⟨l', h1, h2⟩ := Option.map_eq_some_iff.1 hr
        subst h2
        rcases List.mem_cons.1 ht with rfl | ht
        · exact .inl hc
        · exact .inr (hk l' h1 ⟨t, ht, hc⟩)
    simp only [toksA] at h
    split at h
    · exact fl _ h (fun l' e ⟨t, ht, hc⟩ => by injection e with e; subst e; cases ht)
    · split at h
      · rcases toksA_mem s _ l c h ⟨t, ht, hc⟩ with q | q
        · rcases List.mem_append.1 q with q | q
          · exact .inl q
          · simp at q; exact .inr (by simp [q])
        · exact .inr (List.mem_cons_of_mem _ q)
      · split at h
        · refine fl _ h fun l' e q => ?_
          rcases toksA_mem s [] l' c e q with q | q
          · cases q
          · exact List.mem_cons_of_mem _ q
        · split at h
          · refine fl _ h fun l' e ⟨t, ht, hc⟩ => ?_
            obtain ⟨l2, h1, h2⟩ := Option.map_eq_some_iff.1 e
            subst h2
            rcases List.mem_cons.1 ht with rfl | ht
            · simp at hc; simp [hc]
            · rcases toksA_mem s [] l2 c h1 ⟨t, ht, hc⟩ with q | q
              · cases q
              · exact List.mem_cons_of_mem _ q
          · cases h
theorem mark_none {s : List UInt8} {t : List Nm} (h : toks s = some t) (h58 : (58 : UInt8) ∉ s) : markT t = none := by
  cases hm : markT t with
  | none => rfl
  | some a =>
    exfalso
    unfold markT at hm
    split at hm
    · next x y =>
      split at hm
      · next hy =>
        rcases toksA_mem s [] _ 58 h ⟨y, by simp, by rw [hy.1]; simp⟩ with q | q
        · cases q
        · exact h58 q
      · cases hm
    · cases hm
theorem step_jumps {st st' : PS} {n : Nat} {s : List UInt8} (e : stepP st n s = .ok st') (h : st'.jumps = []) : st.jumps = [] := by
  unfold stepP at e
  split at e
  · cases e
  · injection e with e; subst e; exact h
  · split at e
    · split at e
      · cases e
      · injection e with e; subst e; exact h
    · split at e
      · cases e
      · split at e
        · split at e
          · cases e
          · injection e with e
            subst e
            simp only at h
            split at h
            · exact h
            · simp at h
        · cases e
theorem run_jumps : ∀ (ss : List (List UInt8)) (st st' : PS) (n : Nat), runP st n ss = .ok st' → st'.jumps = [] → st.jumps = []
  | [], st, st', n, e, h => by simp only [runP] at e; injection e with e; subst e; exact h
  | s :: ss, st, st', n, e, h => by
    simp only [runP] at e
    split at e
    · cases e
    · next st1 e1 => exact step_jumps e1 (run_jumps ss st1 st' _ e h)
theorem step_out {st st' : PS} {n : Nat} {s : List UInt8} (e : stepP st n s = .ok st') (hj : st.jumps = []) (h : st'.jumps = []) (h58 : (58 : UInt8) ∉ s) :
    ∃ r, lineR s = some r ∧ st' = ⟨st.out ++ r.toList, [], st.marks⟩ := by
  unfold stepP at e
  unfold lineR lineT
  split at e
  · cases e
  · next ht =>
    injection e with e
    subst e
    rw [ht]
    exact ⟨none, by simp, by cases st; simp_all⟩
  · next t hne ht =>
    have hm := mark_none ht h58
    rw [hm] at e
    rw [ht]
    try simp only at e
    simp only [hm]
    split at e
    · cases e
    · next i to hi =>
      split at e
      · next hr =>
        split at e
        · cases e
        · injection e with e
          subst e
          simp only at h
          have h0 : to = [] := by
            split at h
            · next q => exact q
            · simp at h
          refine ⟨some i, ?_, ?_⟩
          · rw [if_neg (by intro q; subst q; exact hne rfl)]
            simp [hi, h0, hr]
          · cases st; simp_all
      · cases e
theorem run_out : ∀ (ss : List (List UInt8)) (st st' : PS) (n : Nat), runP st n ss = .ok st' → st'.jumps = [] → (∀ s ∈ ss, (58 : UInt8) ∉ s) →
    (∀ s ∈ ss, lineR s ≠ none) ∧ st' = ⟨st.out ++ outs ss, [], st.marks⟩
  | [], st, st', n, e, h, _ => by
    simp only [runP] at e
    injection e with e
    subst e
    exact ⟨fun s hs => (by cases hs), by cases st; simp_all [outs]⟩
  | s :: ss, st, st', n, e, h, h58 => by
    have hj := run_jumps _ _ _ _ e h
    simp only [runP] at e
    split at e
    · cases e
    · next st1 e1 =>
      have hj1 := run_jumps ss st1 st' _ e h
      obtain ⟨r, h1, h2⟩ := step_out e1 hj hj1 (h58 s (List.mem_cons_self ..))
      obtain ⟨h3, h4⟩ := run_out ss st1 st' _ e h (fun q hq => h58 q (List.mem_cons_of_mem _ hq))
      subst h2
      refine ⟨fun q hq => ?_, ?_⟩
      · rcases List.mem_cons.1 hq with rfl | hq
        · rw [h1]; simp
        · exact h3 q hq
      · rw [h4]
        unfold outs
        rw [List.filterMap_cons, h1]
        cases r <;> simp
theorem run_all : ∀ (ss : List (List UInt8)) (out : List IV) (n : Nat), (∀ s ∈ ss, lineR s ≠ none) → out.length + (outs ss).length ≤ 4096 → runP ⟨out, [], []⟩ n ss = .ok ⟨out ++ outs ss, [], []⟩
  | [], out, n, _, _ => by simp [runP, outs]
  | s :: ss, out, n, h, hl => by
    obtain ⟨r, hr⟩ := Option.ne_none_iff_exists'.1 (h s (List.mem_cons_self ..))
    have e : outs (s :: ss) = r.toList ++ outs ss := by
      unfold outs
      rw [List.filterMap_cons, hr]
      cases r <;> rfl
    rw [e] at hl ⊢
    have hs : stepP ⟨out, [], []⟩ n s = .ok ⟨out ++ r.toList, [], []⟩ := by
      unfold lineR lineT at hr
      unfold stepP
      split at hr
      · cases hr
      · next t ht =>
        split at hr
        · next h0 =>
          subst h0
          injection hr with hr
          subst hr
          rw [ht]
          simp
        · next h0 =>
          split at hr
          · cases hr
          · next hm =>
            have hm : markT t = none := by simpa using hm
            split at hr
            · next i to hi =>
              split at hr
              · next hc =>
                injection hr with hr
                subst hr
                obtain ⟨rfl, hR⟩ := hc
                rw [ht]
                cases t with
                | nil => exact absurd rfl h0
                | cons a b =>
                  simp only [hm, hi, hR, if_true]
                  rw [if_neg (by simp at hl; omega)]
                  rfl
              · cases hr
            · cases hr
    rw [runP, hs]
    simp only
    rw [run_all ss (out ++ r.toList) (n + 1) (fun q hq => h q (List.mem_cons_of_mem _ hq)) (by simp at hl ⊢; omega), List.append_assoc]
theorem toksA_tail {c : UInt8} {r : Nm} (hb : blankC c = true) (hr : toks r = some []) : ∀ (s cur : Nm), toksA cur (s ++ c :: r) = toksA cur s
  | [], cur => by
    have h1 : c ≠ 35 := by rintro rfl; exact absurd hb (by decide)
    have h2 : wordC c = false := by
      unfold blankC at hb
      simp only [Bool.or_eq_true, decide_eq_true_eq] at hb
      rcases hb with (h | h) | h <;> subst h <;> decide
    unfold toks at hr
    simp [toksA, h1, h2, hb, hr]
  | d :: s, cur => by
    have ih := toksA_tail hb hr s
    rw [List.cons_append, toksA, toksA, ih, ih]
theorem toks_head {c : UInt8} (hb : blankC c = true) (s : Nm) : toks (c :: s) = toks s := by
  have := zt_blank hb s
  rw [List.singleton_append] at this
  rw [this]
  cases toks s <;> simp
/-- What stands behind the lines of the first text. -/
def tail1 : Nm := [32, 35, 32, 120, 58, 32, 91]
theorem line_tail (s : Nm) : lineR (s ++ tail1) = lineR s := by
  unfold lineR toks tail1
  rw [toksA_tail (c := 32) (by decide) (by decide)]
theorem line_cr (s : Nm) : lineR (s ++ [13]) = lineR s := by
  unfold lineR toks
  rw [toksA_tail (c := 13) (by decide) (by decide)]
theorem line_tab (s : Nm) : lineR (9 :: s) = lineR s := by
  unfold lineR
  rw [toks_head (by decide)]
def repl (s : Nm) : Nm := s.flatMap fun c => if c = 10 then tail1 ++ [10, 32, 10] else [c]
def inter : List Nm → List Nm
  | [] => []
  | [l] => [l]
  | l :: m :: ls => (l ++ tail1) :: [32] :: inter (m :: ls)
theorem linesA_ne (s cur : Nm) : linesA cur s ≠ [] := by
  intro e
  have := linesA_len s cur
  rw [e] at this
  simp at this
theorem lines_repl : ∀ (s cur r : Nm), (∀ l, linesA l r = [l ++ r]) → linesA cur (repl s ++ r) = inter (linesA cur (s ++ r))
  | [], cur, r, h => by
    show linesA cur r = inter (linesA cur r)
    rw [h cur]
    rfl
  | c :: s, cur, r, h => by
    have ih := lines_repl s
    unfold repl at *
    rw [List.flatMap_cons, List.append_assoc, List.cons_append]
    by_cases hc : c = 10
    · rw [if_pos hc, hc]
      have e : tail1 ++ [10, 32, 10] ++ (List.flatMap (fun c => if c = 10 then tail1 ++ [10, 32, 10] else [c]) s ++ r) = tail1 ++ 10 :: ([32] ++ 10 :: (List.flatMap (fun c => if c = 10 then tail1 ++ [10, 32, 10] else [c]) s ++ r)) := by simp
      rw [e, linesA_app _ _ _ (by decide), linesA_app _ _ _ (by decide), ih [] r h]
      simp only [linesA, if_true, List.nil_append]
      cases hl : linesA [] (s ++ r) with
      | nil => exact absurd hl (linesA_ne _ _)
      | cons a b => rfl
    · rw [if_neg hc, List.singleton_append, linesA, if_neg hc, ih _ r h, linesA, if_neg hc]
theorem map_tab : ∀ (s cur : Nm), (linesA (9 :: cur) s).map lineR = (linesA cur s).map lineR
  | [], cur => by simp [linesA, line_tab]
  | c :: s, cur => by
    rw [linesA, linesA]
    split
    · rw [List.map_cons, List.map_cons, line_tab]
    · rw [List.cons_append, map_tab s]
theorem map_cr : ∀ (s cur : Nm), (linesA cur (s ++ [13])).map lineR = (linesA cur s).map lineR
  | [], cur => by
    have e : linesA cur ([] ++ [13]) = [cur ++ [13]] := by simp [linesA]
    rw [e]
    simp [linesA, line_cr]
  | c :: s, cur => by
    rw [List.cons_append, linesA, linesA]
    split
    · rw [List.map_cons, List.map_cons, map_cr s]
    · rw [map_cr s]
theorem outs_map {a b : List Nm} (h : a.map lineR = b.map lineR) : outs a = outs b ∧ ((∀ s ∈ b, lineR s ≠ none) → ∀ s ∈ a, lineR s ≠ none) := by
  constructor
  · have : ∀ l : List Nm, outs l = (l.map lineR).filterMap Option.join := by intro l; unfold outs; rw [List.filterMap_map]; rfl
    rw [this, this, h]
  · intro hb s hs
    have : lineR s ∈ b.map lineR := by rw [← h]; exact List.mem_map_of_mem hs
    obtain ⟨t, ht, e⟩ := List.mem_map.1 this
    rw [← e]
    exact hb t ht
theorem outs_app (a b : List Nm) : outs (a ++ b) = outs a ++ outs b := by unfold outs; rw [List.filterMap_append]
theorem outs_cons (a : Nm) (b : List Nm) : outs (a :: b) = (lineR a).join.toList ++ outs b := by
  unfold outs
  rw [List.filterMap_cons]
  cases (lineR a).join <;> rfl
theorem inter_outs : ∀ l : List Nm, outs (inter l) = outs l ∧ ((∀ s ∈ l, lineR s ≠ none) → ∀ s ∈ inter l, lineR s ≠ none)
  | [] => ⟨rfl, fun h => h⟩
  | [l] => ⟨rfl, fun h => h⟩
  | l :: m :: ls => by
    obtain ⟨h1, h2⟩ := inter_outs (m :: ls)
    have e : lineR [32] = some none := by decide +kernel
    refine ⟨?_, fun h s hs => ?_⟩
    · rw [inter, outs_cons, outs_cons, outs_cons l, h1, line_tail, e]
      rfl
    · rw [inter] at hs
      rcases List.mem_cons.1 hs with rfl | hs
      · rw [line_tail]; exact h l (List.mem_cons_self ..)
      · rcases List.mem_cons.1 hs with rfl | hs
        · rw [e]; simp
        · exact h2 (fun s hs => h s (List.mem_cons_of_mem _ hs)) s hs
theorem linesA_join : ∀ (s cur r : Nm), linesA cur (s ++ 10 :: r) = linesA cur s ++ linesA [] r
  | [], cur, r => by simp [linesA]
  | c :: s, cur, r => by
    rw [List.cons_append, linesA, linesA]
    split
    · rw [linesA_join s, List.cons_append]
    · rw [linesA_join s]
theorem lines_mem : ∀ (s cur : Nm) (x : UInt8), (∃ l ∈ linesA cur s, x ∈ l) → x ∈ cur ∨ x ∈ s
  | [], cur, x, ⟨l, h, hx⟩ => by simp [linesA] at h; subst h; exact .inl hx
  | c :: s, cur, x, ⟨l, h, hx⟩ => by
    rw [linesA] at h
    split at h
    · rcases List.mem_cons.1 h with rfl | h
      · exact .inl hx
      · rcases lines_mem s [] x ⟨l, h, hx⟩ with q | q
        · cases q
        · exact .inr (List.mem_cons_of_mem _ q)
    · rcases lines_mem s _ x ⟨l, h, hx⟩ with q | q
      · rcases List.mem_append.1 q with q | q
        · exact .inl q
        · simp at q; exact .inr (by simp [q])
      · exact .inr (List.mem_cons_of_mem _ q)
/-- A text without labels that is parsed: what its lines say. -/
theorem parse_lines {s : Nm} {l : List IV} (h : parseP s = .ok l) (h58 : (58 : UInt8) ∉ s) : (∀ x ∈ linesP s, lineR x ≠ none) ∧ l = outs (linesP s) := by
  unfold parseP at h
  split at h
  · cases h
  · split at h
    · cases h
    · next st e =>
      have hm : ∀ (ss : List (List UInt8)) (st st' : PS) (n : Nat), runP st n ss = .ok st' → (∀ s ∈ ss, (58 : UInt8) ∉ s) → st'.marks = st.marks := by
        intro ss
        induction ss with
        | nil => intro st st' n e _; simp only [runP] at e; injection e with e; subst e; rfl
        | cons s ss ih =>
          intro st st' n e h8
          simp only [runP] at e
          split at e
          · cases e
          · next st1 e1 =>
            rw [ih st1 st' _ e (fun q hq => h8 q (List.mem_cons_of_mem _ hq))]
            unfold stepP at e1
            split at e1
            · cases e1
            · injection e1 with e1; subst e1; rfl
            · next t _ ht =>
              rw [mark_none ht (h8 s (List.mem_cons_self ..))] at e1
              simp only at e1
              split at e1
              · cases e1
              · split at e1
                · split at e1
                  · cases e1
                  · injection e1 with e1; subst e1; rfl
                · cases e1
      have h8 : ∀ x ∈ linesP s, (58 : UInt8) ∉ x := fun x hx q => (lines_mem s [] 58 ⟨x, hx, q⟩).elim (fun q => by cases q) h58
      have hmk := hm _ _ _ _ e h8
      have hj : st.jumps = [] := by
        cases hjj : st.jumps with
        | nil => rfl
        | cons j js =>
          rw [hjj, hmk] at h
          simp [landP, hasM, ps0] at h
      obtain ⟨h1, h2⟩ := run_out _ _ _ _ e hj h8
      rw [hj] at h
      simp only [landP] at h
      injection h with h
      refine ⟨h1, ?_⟩
      rw [← h, h2]
      simp [ps0]
/-- The text of both. -/
def bothT (a b : Nm) : Nm := [35, 32, 102, 105, 114, 115, 116, 10, 9] ++ repl a ++ [13, 10, 10] ++ b ++ [10, 35]
theorem repl_len : ∀ a : Nm, (repl a).length ≤ 10 * a.length
  | [] => by simp [repl]
  | c :: a => by
    have := repl_len a
    unfold repl at *
    rw [List.flatMap_cons]
    have ht : tail1.length = 7 := rfl
    split <;> simp only [List.length_append, List.length_cons, List.length_nil, ht] <;> omega
theorem parse_both {a b : Nm} {x y : List IV} (ha : parseP a = .ok x) (hb : parseP b = .ok y) (ha8 : (58 : UInt8) ∉ a) (hb8 : (58 : UInt8) ∉ b) (hl : x.length + y.length ≤ 4096) (hs : a.length + b.length ≤ 20000) : parseP (bothT a b) = .ok (x ++ y) := by
  obtain ⟨a1, a2⟩ := parse_lines ha ha8
  obtain ⟨b1, b2⟩ := parse_lines hb hb8
  have hr := repl_len a
  have e : linesP (bothT a b) = [[35, 32, 102, 105, 114, 115, 116]] ++ inter (linesA [9] (a ++ [13])) ++ [[]] ++ linesP b ++ [[35]] := by
    unfold linesP bothT
    have e1 : [35, 32, 102, 105, 114, 115, 116, 10, 9] ++ repl a ++ [13, 10, 10] ++ b ++ [10, 35] = [35, 32, 102, 105, 114, 115, 116] ++ 10 :: (9 :: (repl a ++ [13]) ++ 10 :: ([] ++ 10 :: (b ++ 10 :: [35]))) := by simp
    rw [e1, linesA_app _ _ _ (by decide), linesA_join, linesA_join, linesA_join]
    have e2 : linesA [] (9 :: (repl a ++ [13])) = linesA [9] (repl a ++ [13]) := by rw [linesA, if_neg (by decide)]; rfl
    rw [e2, lines_repl a [9] [13] (by intro l; simp [linesA])]
    simp [linesA]
  have m1 : (linesA [9] (a ++ [13])).map lineR = (linesP a).map lineR := by
    rw [map_cr, map_tab a []]
    rfl
  obtain ⟨o1, o2⟩ := outs_map m1
  obtain ⟨i1, i2⟩ := inter_outs (linesA [9] (a ++ [13]))
  have f1 : lineR [35, 32, 102, 105, 114, 115, 116] = some none := by decide +kernel
  have f2 : lineR [] = some none := by decide +kernel
  have f3 : lineR [35] = some none := by decide +kernel
  have ho : outs (linesP (bothT a b)) = x ++ y := by
    rw [e]
    simp only [outs_app, i1, o1, ← a2, ← b2]
    rw [outs_cons, outs_cons [], outs_cons [35], f1, f2, f3]
    simp [outs]
  have hall : ∀ s ∈ linesP (bothT a b), lineR s ≠ none := by
    intro s hs
    rw [e] at hs
    simp only [List.mem_append, List.mem_cons, List.not_mem_nil, or_false] at hs
    rcases hs with (((rfl | hs) | rfl) | hs) | rfl
    · rw [f1]; simp
    · exact i2 (o2 a1) s hs
    · rw [f2]; simp
    · exact b1 s hs
    · rw [f3]; simp
  unfold parseP
  rw [if_neg (by unfold bothT; simp only [List.length_append, List.length_cons, List.length_nil]; omega)]
  have := run_all (linesP (bothT a b)) [] 1 hall (by rw [ho]; simpa using hl)
  unfold ps0
  rw [this, ho]
  rfl
end Go.Proofs.YtjebjninlejoeaaGreatDoor
