/- The document's One: over this seat's program. -/
import Derived.Test.YtdhfdlelnkoomaaDoorRRight
import Derived.Deep.DeepCutAuto
namespace Go.Proofs.YtdhfdlelnkoomaaDoor
open Go.RowKit Go.Shelf
set_option linter.unusedVariables false
set_option maxRecDepth 100000
attribute [local go_sem high] eql_ins
theorem reg_any (x : Int) (w : World) : Calls Tryd.prog 39 #[.int .i64 x] w fun e w' => e = .returned (.bool (regP x)) ∧ w = w' := by
  by_cases h0 : 0 ≤ x
  · have d0 : decide (0 ≤ x) = true := decide_eq_true h0
    by_cases h1 : x ≤ 15
    · have d1 : decide (x ≤ 15) = true := decide_eq_true h1
      have HV : Hid (regP x = true) := Lib.hid (decide_eq_true ⟨h0, h1⟩)
      go_enter Tryd.func39, Tryd.ntmps39
      go_wp2_with fail
      go_ret
      exact ⟨by rw [HV.out]; rfl, rfl⟩
    · have d1 : decide (x ≤ 15) = false := decide_eq_false h1
      have HV : Hid (regP x = false) := Lib.hid (decide_eq_false (fun h => h1 h.2))
      go_enter Tryd.func39, Tryd.ntmps39
      go_wp2_with fail
      go_ret
      exact ⟨by rw [HV.out]; rfl, rfl⟩
  · have d0 : decide (0 ≤ x) = false := decide_eq_false h0
    have HV : Hid (regP x = false) := Lib.hid (decide_eq_false (fun h => h0 h.1))
    go_enter Tryd.func39, Tryd.ntmps39
    go_wp2_with fail
    go_ret
    exact ⟨by rw [HV.out]; rfl, rfl⟩
theorem rsized_any (x : Int) (w : World) : Calls Tryd.prog 40 #[.int .i64 x] w fun e w' => e = .returned (.bool (sizedP x)) ∧ w = w' := by
  by_cases h1 : x = 1
  · have HV : Hid (sizedP x = true) := Lib.hid (by rw [h1]; rfl)
    have t1 : (x == 1) = true := by rw [h1]; rfl
    clear h1
    go_enter Tryd.func40, Tryd.ntmps40
    go_wp2_with fail
    go_ret
    exact ⟨by rw [HV.out]; rfl, rfl⟩
  by_cases h2 : x = 2
  · have HV : Hid (sizedP x = true) := Lib.hid (by rw [h2]; rfl)
    have t2 : (x == 2) = true := by rw [h2]; rfl
    have t1 : (x == 1) = false := by simpa using h1
    clear h2
    go_enter Tryd.func40, Tryd.ntmps40
    go_wp2_with fail
    go_ret
    exact ⟨by rw [HV.out]; rfl, rfl⟩
  by_cases h4 : x = 4
  · have HV : Hid (sizedP x = true) := Lib.hid (by rw [h4]; rfl)
    have t4 : (x == 4) = true := by rw [h4]; rfl
    have t1 : (x == 1) = false := by simpa using h1
    have t2 : (x == 2) = false := by simpa using h2
    clear h4
    go_enter Tryd.func40, Tryd.ntmps40
    go_wp2_with fail
    go_ret
    exact ⟨by rw [HV.out]; rfl, rfl⟩
  by_cases h8 : x = 8
  · have HV : Hid (sizedP x = true) := Lib.hid (by rw [h8]; rfl)
    have t8 : (x == 8) = true := by rw [h8]; rfl
    have t1 : (x == 1) = false := by simpa using h1
    have t2 : (x == 2) = false := by simpa using h2
    have t4 : (x == 4) = false := by simpa using h4
    clear h8
    go_enter Tryd.func40, Tryd.ntmps40
    go_wp2_with fail
    go_ret
    exact ⟨by rw [HV.out]; rfl, rfl⟩
  have t1 : (x == 1) = false := by simpa using h1
  have t2 : (x == 2) = false := by simpa using h2
  have t4 : (x == 4) = false := by simpa using h4
  have t8 : (x == 8) = false := by simpa using h8
  have HV : Hid (sizedP x = false) := Lib.hid (by simp [sizedP, h1, h2, h4, h8])
  go_enter Tryd.func40, Tryd.ntmps40
  go_wp2_with fail
  go_ret
  exact ⟨by rw [HV.out]; rfl, rfl⟩
set_option maxHeartbeats 4000000 in
theorem rone_set (f : Ins) (i n : Int) (w : World) (h : f.op = 1) : Calls Tryd.prog 21 #[insA f, .int .i64 i, .int .i64 n] w fun e w' => e = .returned (.bool (oneP f i n)) ∧ Below w.heap.size w w' := by
  obtain ⟨r, hr⟩ : ∃ r, r = oneP f i n := ⟨_, rfl⟩
  rw [← hr]
  have HR : Hid (r = oneP f i n) := Lib.hid hr
  clear hr
  have hB : Hid ((⟨1, f.what, f.nar, f.d, f.a, f.b, f.n, f.size, f.to⟩ : Ins) = f) := Lib.hid (by rw [← h])
  unfold insA insV
  rw [h]
  have H := Lib.hid h
  clear h
  obtain ⟨q, hq⟩ : ∃ q, q = decide (i < f.to ∧ f.to < n) := ⟨_, rfl⟩
  have HQ : Hid (q = decide (i < f.to ∧ f.to < n)) := Lib.hid hq
  clear hq
  go_enter Tryd.func21, Tryd.ntmps21
  go_upto_region 1 with fail
  go_cut [7] (fun v wx => v = .bool q ∧ wx = w.alloc (.cells #[.int .u8 1, .int .u8 f.what, .bool f.nar, .int .i64 f.d, .int .i64 f.a, .int .i64 f.b, .int .u64 f.n, .int .i64 f.size, .int .i64 f.to] 35))
  case first =>
    by_cases h1 : i < f.to
    · have d1 : decide (i < f.to) = true := decide_eq_true h1
      by_cases h2 : f.to < n
      · have d2 : decide (f.to < n) = true := decide_eq_true h2
        have HV : Hid (q = true) := Lib.hid (by rw [HQ.out]; exact decide_eq_true ⟨h1, h2⟩)
        go_wp2_with fail
        go_meet
        exact ⟨by rw [HV.out], rfl⟩
      · have d2 : decide (f.to < n) = false := decide_eq_false h2
        have HV : Hid (q = false) := Lib.hid (by rw [HQ.out]; exact decide_eq_false (fun h => h2 h.2))
        go_wp2_with fail
        go_meet
        exact ⟨by rw [HV.out], rfl⟩
    · have d1 : decide (i < f.to) = false := decide_eq_false h1
      have HV : Hid (q = false) := Lib.hid (by rw [HQ.out]; exact decide_eq_false (fun h => h1 h.1))
      go_wp2_with fail
      go_meet
      exact ⟨by rw [HV.out], rfl⟩
  case rest =>
    obtain ⟨rfl, rfl⟩ := hcut
    by_cases hf : f = { op := 1, what := 0, nar := false, d := f.d, a := 0, b := 0, n := f.n, size := 0, «to» := 0 }
    · have hE := insE_t (hB.out.trans hf)
      have HF := Lib.hid hf
      clear hf
      go_wp2_with fail
      refine (reg_any f.d _).mono ?_
      rintro _ _ ⟨rfl, rfl⟩
      obtain ⟨qd, hqd⟩ : ∃ qd, qd = regP f.d := ⟨_, rfl⟩
      have Hqd : Hid (regP f.d = qd) := Lib.hid hqd.symm
      rw [← hqd]
      clear hqd
      cases qd
      · have HV : Hid (r = false) := Lib.hid (by rw [HR.out]; unfold oneP; simp [H.out, eq_true HF.out, Hqd.out])
        go_wp2_with fail
        go_ret
        exact ⟨by rw [HV.out]; rfl, (Below.refl _ _).alloc (Nat.le_refl _) _⟩
      · have HV : Hid (r = true) := Lib.hid (by rw [HR.out]; unfold oneP; simp [H.out, eq_true HF.out, Hqd.out])
        go_wp2_with fail
        go_ret
        exact ⟨by rw [HV.out]; rfl, (Below.refl _ _).alloc (Nat.le_refl _) _⟩
    · have hE := insE_f (fun e => hf (hB.out.symm.trans e))
      have HF := Lib.hid hf
      clear hf
      have HV : Hid (r = false) := Lib.hid (by rw [HR.out]; unfold oneP; simp [H.out, eq_false HF.out])
      go_wp2_with fail
      go_ret
      exact ⟨by rw [HV.out]; rfl, (Below.refl _ _).alloc (Nat.le_refl _) _⟩
set_option maxHeartbeats 4000000 in
theorem rone_move (f : Ins) (i n : Int) (w : World) (h : f.op = 2) : Calls Tryd.prog 21 #[insA f, .int .i64 i, .int .i64 n] w fun e w' => e = .returned (.bool (oneP f i n)) ∧ Below w.heap.size w w' := by
  obtain ⟨r, hr⟩ : ∃ r, r = oneP f i n := ⟨_, rfl⟩
  rw [← hr]
  have HR : Hid (r = oneP f i n) := Lib.hid hr
  clear hr
  have hB : Hid ((⟨2, f.what, f.nar, f.d, f.a, f.b, f.n, f.size, f.to⟩ : Ins) = f) := Lib.hid (by rw [← h])
  unfold insA insV
  rw [h]
  have H := Lib.hid h
  clear h
  obtain ⟨q, hq⟩ : ∃ q, q = decide (i < f.to ∧ f.to < n) := ⟨_, rfl⟩
  have HQ : Hid (q = decide (i < f.to ∧ f.to < n)) := Lib.hid hq
  clear hq
  go_enter Tryd.func21, Tryd.ntmps21
  go_upto_region 1 with fail
  go_cut [7] (fun v wx => v = .bool q ∧ wx = w.alloc (.cells #[.int .u8 2, .int .u8 f.what, .bool f.nar, .int .i64 f.d, .int .i64 f.a, .int .i64 f.b, .int .u64 f.n, .int .i64 f.size, .int .i64 f.to] 35))
  case first =>
    by_cases h1 : i < f.to
    · have d1 : decide (i < f.to) = true := decide_eq_true h1
      by_cases h2 : f.to < n
      · have d2 : decide (f.to < n) = true := decide_eq_true h2
        have HV : Hid (q = true) := Lib.hid (by rw [HQ.out]; exact decide_eq_true ⟨h1, h2⟩)
        go_wp2_with fail
        go_meet
        exact ⟨by rw [HV.out], rfl⟩
      · have d2 : decide (f.to < n) = false := decide_eq_false h2
        have HV : Hid (q = false) := Lib.hid (by rw [HQ.out]; exact decide_eq_false (fun h => h2 h.2))
        go_wp2_with fail
        go_meet
        exact ⟨by rw [HV.out], rfl⟩
    · have d1 : decide (i < f.to) = false := decide_eq_false h1
      have HV : Hid (q = false) := Lib.hid (by rw [HQ.out]; exact decide_eq_false (fun h => h1 h.1))
      go_wp2_with fail
      go_meet
      exact ⟨by rw [HV.out], rfl⟩
  case rest =>
    obtain ⟨rfl, rfl⟩ := hcut
    by_cases hf : f = { op := 2, what := 0, nar := false, d := f.d, a := f.a, b := 0, n := 0, size := 0, «to» := 0 }
    · have hE := insE_t (hB.out.trans hf)
      have HF := Lib.hid hf
      clear hf
      go_wp2_with fail
      refine (reg_any f.d _).mono ?_
      rintro _ _ ⟨rfl, rfl⟩
      obtain ⟨qd, hqd⟩ : ∃ qd, qd = regP f.d := ⟨_, rfl⟩
      have Hqd : Hid (regP f.d = qd) := Lib.hid hqd.symm
      rw [← hqd]
      clear hqd
      cases qd
      · have HV : Hid (r = false) := Lib.hid (by rw [HR.out]; unfold oneP; simp [H.out, eq_true HF.out, Hqd.out])
        go_wp2_with fail
        go_ret
        exact ⟨by rw [HV.out]; rfl, (Below.refl _ _).alloc (Nat.le_refl _) _⟩
      · go_wp2_with fail
        refine (reg_any f.a _).mono ?_
        rintro _ _ ⟨rfl, rfl⟩
        obtain ⟨qa, hqa⟩ : ∃ qa, qa = regP f.a := ⟨_, rfl⟩
        have Hqa : Hid (regP f.a = qa) := Lib.hid hqa.symm
        rw [← hqa]
        clear hqa
        cases qa
        · have HV : Hid (r = false) := Lib.hid (by rw [HR.out]; unfold oneP; simp [H.out, eq_true HF.out, Hqd.out, Hqa.out])
          go_wp2_with fail
          go_ret
          exact ⟨by rw [HV.out]; rfl, (Below.refl _ _).alloc (Nat.le_refl _) _⟩
        · have HV : Hid (r = true) := Lib.hid (by rw [HR.out]; unfold oneP; simp [H.out, eq_true HF.out, Hqd.out, Hqa.out])
          go_wp2_with fail
          go_ret
          exact ⟨by rw [HV.out]; rfl, (Below.refl _ _).alloc (Nat.le_refl _) _⟩
    · have hE := insE_f (fun e => hf (hB.out.symm.trans e))
      have HF := Lib.hid hf
      clear hf
      have HV : Hid (r = false) := Lib.hid (by rw [HR.out]; unfold oneP; simp [H.out, eq_false HF.out])
      go_wp2_with fail
      go_ret
      exact ⟨by rw [HV.out]; rfl, (Below.refl _ _).alloc (Nat.le_refl _) _⟩
set_option maxHeartbeats 4000000 in
theorem rone_end (f : Ins) (i n : Int) (w : World) (h : f.op = 9) : Calls Tryd.prog 21 #[insA f, .int .i64 i, .int .i64 n] w fun e w' => e = .returned (.bool (oneP f i n)) ∧ Below w.heap.size w w' := by
  obtain ⟨r, hr⟩ : ∃ r, r = oneP f i n := ⟨_, rfl⟩
  rw [← hr]
  have HR : Hid (r = oneP f i n) := Lib.hid hr
  clear hr
  have hB : Hid ((⟨9, f.what, f.nar, f.d, f.a, f.b, f.n, f.size, f.to⟩ : Ins) = f) := Lib.hid (by rw [← h])
  unfold insA insV
  rw [h]
  have H := Lib.hid h
  clear h
  obtain ⟨q, hq⟩ : ∃ q, q = decide (i < f.to ∧ f.to < n) := ⟨_, rfl⟩
  have HQ : Hid (q = decide (i < f.to ∧ f.to < n)) := Lib.hid hq
  clear hq
  go_enter Tryd.func21, Tryd.ntmps21
  go_upto_region 1 with fail
  go_cut [7] (fun v wx => v = .bool q ∧ wx = w.alloc (.cells #[.int .u8 9, .int .u8 f.what, .bool f.nar, .int .i64 f.d, .int .i64 f.a, .int .i64 f.b, .int .u64 f.n, .int .i64 f.size, .int .i64 f.to] 35))
  case first =>
    by_cases h1 : i < f.to
    · have d1 : decide (i < f.to) = true := decide_eq_true h1
      by_cases h2 : f.to < n
      · have d2 : decide (f.to < n) = true := decide_eq_true h2
        have HV : Hid (q = true) := Lib.hid (by rw [HQ.out]; exact decide_eq_true ⟨h1, h2⟩)
        go_wp2_with fail
        go_meet
        exact ⟨by rw [HV.out], rfl⟩
      · have d2 : decide (f.to < n) = false := decide_eq_false h2
        have HV : Hid (q = false) := Lib.hid (by rw [HQ.out]; exact decide_eq_false (fun h => h2 h.2))
        go_wp2_with fail
        go_meet
        exact ⟨by rw [HV.out], rfl⟩
    · have d1 : decide (i < f.to) = false := decide_eq_false h1
      have HV : Hid (q = false) := Lib.hid (by rw [HQ.out]; exact decide_eq_false (fun h => h1 h.1))
      go_wp2_with fail
      go_meet
      exact ⟨by rw [HV.out], rfl⟩
  case rest =>
    obtain ⟨rfl, rfl⟩ := hcut
    by_cases hf : f = { op := 9, what := 0, nar := false, d := 0, a := f.a, b := 0, n := 0, size := 0, «to» := 0 }
    · have hE := insE_t (hB.out.trans hf)
      have HF := Lib.hid hf
      clear hf
      go_wp2_with fail
      refine (reg_any f.a _).mono ?_
      rintro _ _ ⟨rfl, rfl⟩
      obtain ⟨qa, hqa⟩ : ∃ qa, qa = regP f.a := ⟨_, rfl⟩
      have Hqa : Hid (regP f.a = qa) := Lib.hid hqa.symm
      rw [← hqa]
      clear hqa
      cases qa
      · have HV : Hid (r = false) := Lib.hid (by rw [HR.out]; unfold oneP; simp [H.out, eq_true HF.out, Hqa.out])
        go_wp2_with fail
        go_ret
        exact ⟨by rw [HV.out]; rfl, (Below.refl _ _).alloc (Nat.le_refl _) _⟩
      · have HV : Hid (r = true) := Lib.hid (by rw [HR.out]; unfold oneP; simp [H.out, eq_true HF.out, Hqa.out])
        go_wp2_with fail
        go_ret
        exact ⟨by rw [HV.out]; rfl, (Below.refl _ _).alloc (Nat.le_refl _) _⟩
    · have hE := insE_f (fun e => hf (hB.out.symm.trans e))
      have HF := Lib.hid hf
      clear hf
      have HV : Hid (r = false) := Lib.hid (by rw [HR.out]; unfold oneP; simp [H.out, eq_false HF.out])
      go_wp2_with fail
      go_ret
      exact ⟨by rw [HV.out]; rfl, (Below.refl _ _).alloc (Nat.le_refl _) _⟩
set_option maxHeartbeats 4000000 in
theorem rone_jump (f : Ins) (i n : Int) (w : World) (h : f.op = 7) : Calls Tryd.prog 21 #[insA f, .int .i64 i, .int .i64 n] w fun e w' => e = .returned (.bool (oneP f i n)) ∧ Below w.heap.size w w' := by
  obtain ⟨r, hr⟩ : ∃ r, r = oneP f i n := ⟨_, rfl⟩
  rw [← hr]
  have HR : Hid (r = oneP f i n) := Lib.hid hr
  clear hr
  have hB : Hid ((⟨7, f.what, f.nar, f.d, f.a, f.b, f.n, f.size, f.to⟩ : Ins) = f) := Lib.hid (by rw [← h])
  unfold insA insV
  rw [h]
  have H := Lib.hid h
  clear h
  obtain ⟨q, hq⟩ : ∃ q, q = decide (i < f.to ∧ f.to < n) := ⟨_, rfl⟩
  have HQ : Hid (q = decide (i < f.to ∧ f.to < n)) := Lib.hid hq
  clear hq
  go_enter Tryd.func21, Tryd.ntmps21
  go_upto_region 1 with fail
  go_cut [7] (fun v wx => v = .bool q ∧ wx = w.alloc (.cells #[.int .u8 7, .int .u8 f.what, .bool f.nar, .int .i64 f.d, .int .i64 f.a, .int .i64 f.b, .int .u64 f.n, .int .i64 f.size, .int .i64 f.to] 35))
  case first =>
    by_cases h1 : i < f.to
    · have d1 : decide (i < f.to) = true := decide_eq_true h1
      by_cases h2 : f.to < n
      · have d2 : decide (f.to < n) = true := decide_eq_true h2
        have HV : Hid (q = true) := Lib.hid (by rw [HQ.out]; exact decide_eq_true ⟨h1, h2⟩)
        go_wp2_with fail
        go_meet
        exact ⟨by rw [HV.out], rfl⟩
      · have d2 : decide (f.to < n) = false := decide_eq_false h2
        have HV : Hid (q = false) := Lib.hid (by rw [HQ.out]; exact decide_eq_false (fun h => h2 h.2))
        go_wp2_with fail
        go_meet
        exact ⟨by rw [HV.out], rfl⟩
    · have d1 : decide (i < f.to) = false := decide_eq_false h1
      have HV : Hid (q = false) := Lib.hid (by rw [HQ.out]; exact decide_eq_false (fun h => h1 h.1))
      go_wp2_with fail
      go_meet
      exact ⟨by rw [HV.out], rfl⟩
  case rest =>
    obtain ⟨rfl, rfl⟩ := hcut
    by_cases hf : f = { op := 7, what := 0, nar := false, d := 0, a := 0, b := 0, n := 0, size := 0, «to» := f.to }
    · have hE := insE_t (hB.out.trans hf)
      have HF := Lib.hid hf
      clear hf
      cases q
      · have HQ' : Hid ((decide (i < f.to ∧ f.to < n)) = false) := Lib.hid HQ.out.symm
        have HV : Hid (r = false) := Lib.hid (by rw [HR.out]; unfold oneP; simp [H.out, eq_true HF.out, HQ'.out])
        go_wp2_with fail
        go_ret
        exact ⟨by rw [HV.out]; rfl, (Below.refl _ _).alloc (Nat.le_refl _) _⟩
      · have HQ' : Hid ((decide (i < f.to ∧ f.to < n)) = true) := Lib.hid HQ.out.symm
        have HV : Hid (r = true) := Lib.hid (by rw [HR.out]; unfold oneP; simp [H.out, eq_true HF.out, HQ'.out])
        go_wp2_with fail
        go_ret
        exact ⟨by rw [HV.out]; rfl, (Below.refl _ _).alloc (Nat.le_refl _) _⟩
    · have hE := insE_f (fun e => hf (hB.out.symm.trans e))
      have HF := Lib.hid hf
      clear hf
      have HV : Hid (r = false) := Lib.hid (by rw [HR.out]; unfold oneP; simp [H.out, eq_false HF.out])
      go_wp2_with fail
      go_ret
      exact ⟨by rw [HV.out]; rfl, (Below.refl _ _).alloc (Nat.le_refl _) _⟩
set_option maxHeartbeats 4000000 in
theorem rone_load (f : Ins) (i n : Int) (w : World) (h : f.op = 4) : Calls Tryd.prog 21 #[insA f, .int .i64 i, .int .i64 n] w fun e w' => e = .returned (.bool (oneP f i n)) ∧ Below w.heap.size w w' := by
  obtain ⟨r, hr⟩ : ∃ r, r = oneP f i n := ⟨_, rfl⟩
  rw [← hr]
  have HR : Hid (r = oneP f i n) := Lib.hid hr
  clear hr
  have hB : Hid ((⟨4, f.what, f.nar, f.d, f.a, f.b, f.n, f.size, f.to⟩ : Ins) = f) := Lib.hid (by rw [← h])
  unfold insA insV
  rw [h]
  have H := Lib.hid h
  clear h
  obtain ⟨q, hq⟩ : ∃ q, q = decide (i < f.to ∧ f.to < n) := ⟨_, rfl⟩
  have HQ : Hid (q = decide (i < f.to ∧ f.to < n)) := Lib.hid hq
  clear hq
  go_enter Tryd.func21, Tryd.ntmps21
  go_upto_region 1 with fail
  go_cut [7] (fun v wx => v = .bool q ∧ wx = w.alloc (.cells #[.int .u8 4, .int .u8 f.what, .bool f.nar, .int .i64 f.d, .int .i64 f.a, .int .i64 f.b, .int .u64 f.n, .int .i64 f.size, .int .i64 f.to] 35))
  case first =>
    by_cases h1 : i < f.to
    · have d1 : decide (i < f.to) = true := decide_eq_true h1
      by_cases h2 : f.to < n
      · have d2 : decide (f.to < n) = true := decide_eq_true h2
        have HV : Hid (q = true) := Lib.hid (by rw [HQ.out]; exact decide_eq_true ⟨h1, h2⟩)
        go_wp2_with fail
        go_meet
        exact ⟨by rw [HV.out], rfl⟩
      · have d2 : decide (f.to < n) = false := decide_eq_false h2
        have HV : Hid (q = false) := Lib.hid (by rw [HQ.out]; exact decide_eq_false (fun h => h2 h.2))
        go_wp2_with fail
        go_meet
        exact ⟨by rw [HV.out], rfl⟩
    · have d1 : decide (i < f.to) = false := decide_eq_false h1
      have HV : Hid (q = false) := Lib.hid (by rw [HQ.out]; exact decide_eq_false (fun h => h1 h.1))
      go_wp2_with fail
      go_meet
      exact ⟨by rw [HV.out], rfl⟩
  case rest =>
    obtain ⟨rfl, rfl⟩ := hcut
    by_cases hf : f = { op := 4, what := 0, nar := false, d := f.d, a := f.a, b := 0, n := f.n, size := f.size, «to» := 0 }
    · have hE := insE_t (hB.out.trans hf)
      have HF := Lib.hid hf
      clear hf
      go_wp2_with fail
      refine (reg_any f.d _).mono ?_
      rintro _ _ ⟨rfl, rfl⟩
      obtain ⟨qd, hqd⟩ : ∃ qd, qd = regP f.d := ⟨_, rfl⟩
      have Hqd : Hid (regP f.d = qd) := Lib.hid hqd.symm
      rw [← hqd]
      clear hqd
      cases qd
      · have HV : Hid (r = false) := Lib.hid (by rw [HR.out]; unfold oneP; simp [H.out, eq_true HF.out, Hqd.out])
        go_wp2_with fail
        go_ret
        exact ⟨by rw [HV.out]; rfl, (Below.refl _ _).alloc (Nat.le_refl _) _⟩
      · go_wp2_with fail
        refine (reg_any f.a _).mono ?_
        rintro _ _ ⟨rfl, rfl⟩
        obtain ⟨qa, hqa⟩ : ∃ qa, qa = regP f.a := ⟨_, rfl⟩
        have Hqa : Hid (regP f.a = qa) := Lib.hid hqa.symm
        rw [← hqa]
        clear hqa
        cases qa
        · have HV : Hid (r = false) := Lib.hid (by rw [HR.out]; unfold oneP; simp [H.out, eq_true HF.out, Hqd.out, Hqa.out])
          go_wp2_with fail
          go_ret
          exact ⟨by rw [HV.out]; rfl, (Below.refl _ _).alloc (Nat.le_refl _) _⟩
        · go_wp2_with fail
          refine (rsized_any f.size _).mono ?_
          rintro _ _ ⟨rfl, rfl⟩
          obtain ⟨qsize, hqsize⟩ : ∃ qsize, qsize = sizedP f.size := ⟨_, rfl⟩
          have Hqsize : Hid (sizedP f.size = qsize) := Lib.hid hqsize.symm
          rw [← hqsize]
          clear hqsize
          cases qsize
          · have HV : Hid (r = false) := Lib.hid (by rw [HR.out]; unfold oneP; simp [H.out, eq_true HF.out, Hqd.out, Hqa.out, Hqsize.out])
            go_wp2_with fail
            go_ret
            exact ⟨by rw [HV.out]; rfl, (Below.refl _ _).alloc (Nat.le_refl _) _⟩
          · have HV : Hid (r = true) := Lib.hid (by rw [HR.out]; unfold oneP; simp [H.out, eq_true HF.out, Hqd.out, Hqa.out, Hqsize.out])
            go_wp2_with fail
            go_ret
            exact ⟨by rw [HV.out]; rfl, (Below.refl _ _).alloc (Nat.le_refl _) _⟩
    · have hE := insE_f (fun e => hf (hB.out.symm.trans e))
      have HF := Lib.hid hf
      clear hf
      have HV : Hid (r = false) := Lib.hid (by rw [HR.out]; unfold oneP; simp [H.out, eq_false HF.out])
      go_wp2_with fail
      go_ret
      exact ⟨by rw [HV.out]; rfl, (Below.refl _ _).alloc (Nat.le_refl _) _⟩
set_option maxHeartbeats 4000000 in
theorem rone_read (f : Ins) (i n : Int) (w : World) (h : f.op = 5) : Calls Tryd.prog 21 #[insA f, .int .i64 i, .int .i64 n] w fun e w' => e = .returned (.bool (oneP f i n)) ∧ Below w.heap.size w w' := by
  obtain ⟨r, hr⟩ : ∃ r, r = oneP f i n := ⟨_, rfl⟩
  rw [← hr]
  have HR : Hid (r = oneP f i n) := Lib.hid hr
  clear hr
  have hB : Hid ((⟨5, f.what, f.nar, f.d, f.a, f.b, f.n, f.size, f.to⟩ : Ins) = f) := Lib.hid (by rw [← h])
  unfold insA insV
  rw [h]
  have H := Lib.hid h
  clear h
  obtain ⟨q, hq⟩ : ∃ q, q = decide (i < f.to ∧ f.to < n) := ⟨_, rfl⟩
  have HQ : Hid (q = decide (i < f.to ∧ f.to < n)) := Lib.hid hq
  clear hq
  go_enter Tryd.func21, Tryd.ntmps21
  go_upto_region 1 with fail
  go_cut [7] (fun v wx => v = .bool q ∧ wx = w.alloc (.cells #[.int .u8 5, .int .u8 f.what, .bool f.nar, .int .i64 f.d, .int .i64 f.a, .int .i64 f.b, .int .u64 f.n, .int .i64 f.size, .int .i64 f.to] 35))
  case first =>
    by_cases h1 : i < f.to
    · have d1 : decide (i < f.to) = true := decide_eq_true h1
      by_cases h2 : f.to < n
      · have d2 : decide (f.to < n) = true := decide_eq_true h2
        have HV : Hid (q = true) := Lib.hid (by rw [HQ.out]; exact decide_eq_true ⟨h1, h2⟩)
        go_wp2_with fail
        go_meet
        exact ⟨by rw [HV.out], rfl⟩
      · have d2 : decide (f.to < n) = false := decide_eq_false h2
        have HV : Hid (q = false) := Lib.hid (by rw [HQ.out]; exact decide_eq_false (fun h => h2 h.2))
        go_wp2_with fail
        go_meet
        exact ⟨by rw [HV.out], rfl⟩
    · have d1 : decide (i < f.to) = false := decide_eq_false h1
      have HV : Hid (q = false) := Lib.hid (by rw [HQ.out]; exact decide_eq_false (fun h => h1 h.1))
      go_wp2_with fail
      go_meet
      exact ⟨by rw [HV.out], rfl⟩
  case rest =>
    obtain ⟨rfl, rfl⟩ := hcut
    by_cases hf : f = { op := 5, what := 0, nar := false, d := f.d, a := f.a, b := 0, n := f.n, size := f.size, «to» := 0 }
    · have hE := insE_t (hB.out.trans hf)
      have HF := Lib.hid hf
      clear hf
      go_wp2_with fail
      refine (reg_any f.d _).mono ?_
      rintro _ _ ⟨rfl, rfl⟩
      obtain ⟨qd, hqd⟩ : ∃ qd, qd = regP f.d := ⟨_, rfl⟩
      have Hqd : Hid (regP f.d = qd) := Lib.hid hqd.symm
      rw [← hqd]
      clear hqd
      cases qd
      · have HV : Hid (r = false) := Lib.hid (by rw [HR.out]; unfold oneP; simp [H.out, eq_true HF.out, Hqd.out])
        go_wp2_with fail
        go_ret
        exact ⟨by rw [HV.out]; rfl, (Below.refl _ _).alloc (Nat.le_refl _) _⟩
      · go_wp2_with fail
        refine (reg_any f.a _).mono ?_
        rintro _ _ ⟨rfl, rfl⟩
        obtain ⟨qa, hqa⟩ : ∃ qa, qa = regP f.a := ⟨_, rfl⟩
        have Hqa : Hid (regP f.a = qa) := Lib.hid hqa.symm
        rw [← hqa]
        clear hqa
        cases qa
        · have HV : Hid (r = false) := Lib.hid (by rw [HR.out]; unfold oneP; simp [H.out, eq_true HF.out, Hqd.out, Hqa.out])
          go_wp2_with fail
          go_ret
          exact ⟨by rw [HV.out]; rfl, (Below.refl _ _).alloc (Nat.le_refl _) _⟩
        · go_wp2_with fail
          refine (rsized_any f.size _).mono ?_
          rintro _ _ ⟨rfl, rfl⟩
          obtain ⟨qsize, hqsize⟩ : ∃ qsize, qsize = sizedP f.size := ⟨_, rfl⟩
          have Hqsize : Hid (sizedP f.size = qsize) := Lib.hid hqsize.symm
          rw [← hqsize]
          clear hqsize
          cases qsize
          · have HV : Hid (r = false) := Lib.hid (by rw [HR.out]; unfold oneP; simp [H.out, eq_true HF.out, Hqd.out, Hqa.out, Hqsize.out])
            go_wp2_with fail
            go_ret
            exact ⟨by rw [HV.out]; rfl, (Below.refl _ _).alloc (Nat.le_refl _) _⟩
          · have HV : Hid (r = true) := Lib.hid (by rw [HR.out]; unfold oneP; simp [H.out, eq_true HF.out, Hqd.out, Hqa.out, Hqsize.out])
            go_wp2_with fail
            go_ret
            exact ⟨by rw [HV.out]; rfl, (Below.refl _ _).alloc (Nat.le_refl _) _⟩
    · have hE := insE_f (fun e => hf (hB.out.symm.trans e))
      have HF := Lib.hid hf
      clear hf
      have HV : Hid (r = false) := Lib.hid (by rw [HR.out]; unfold oneP; simp [H.out, eq_false HF.out])
      go_wp2_with fail
      go_ret
      exact ⟨by rw [HV.out]; rfl, (Below.refl _ _).alloc (Nat.le_refl _) _⟩
set_option maxHeartbeats 4000000 in
theorem rone_write (f : Ins) (i n : Int) (w : World) (h : f.op = 6) : Calls Tryd.prog 21 #[insA f, .int .i64 i, .int .i64 n] w fun e w' => e = .returned (.bool (oneP f i n)) ∧ Below w.heap.size w w' := by
  obtain ⟨r, hr⟩ : ∃ r, r = oneP f i n := ⟨_, rfl⟩
  rw [← hr]
  have HR : Hid (r = oneP f i n) := Lib.hid hr
  clear hr
  have hB : Hid ((⟨6, f.what, f.nar, f.d, f.a, f.b, f.n, f.size, f.to⟩ : Ins) = f) := Lib.hid (by rw [← h])
  unfold insA insV
  rw [h]
  have H := Lib.hid h
  clear h
  obtain ⟨q, hq⟩ : ∃ q, q = decide (i < f.to ∧ f.to < n) := ⟨_, rfl⟩
  have HQ : Hid (q = decide (i < f.to ∧ f.to < n)) := Lib.hid hq
  clear hq
  go_enter Tryd.func21, Tryd.ntmps21
  go_upto_region 1 with fail
  go_cut [7] (fun v wx => v = .bool q ∧ wx = w.alloc (.cells #[.int .u8 6, .int .u8 f.what, .bool f.nar, .int .i64 f.d, .int .i64 f.a, .int .i64 f.b, .int .u64 f.n, .int .i64 f.size, .int .i64 f.to] 35))
  case first =>
    by_cases h1 : i < f.to
    · have d1 : decide (i < f.to) = true := decide_eq_true h1
      by_cases h2 : f.to < n
      · have d2 : decide (f.to < n) = true := decide_eq_true h2
        have HV : Hid (q = true) := Lib.hid (by rw [HQ.out]; exact decide_eq_true ⟨h1, h2⟩)
        go_wp2_with fail
        go_meet
        exact ⟨by rw [HV.out], rfl⟩
      · have d2 : decide (f.to < n) = false := decide_eq_false h2
        have HV : Hid (q = false) := Lib.hid (by rw [HQ.out]; exact decide_eq_false (fun h => h2 h.2))
        go_wp2_with fail
        go_meet
        exact ⟨by rw [HV.out], rfl⟩
    · have d1 : decide (i < f.to) = false := decide_eq_false h1
      have HV : Hid (q = false) := Lib.hid (by rw [HQ.out]; exact decide_eq_false (fun h => h1 h.1))
      go_wp2_with fail
      go_meet
      exact ⟨by rw [HV.out], rfl⟩
  case rest =>
    obtain ⟨rfl, rfl⟩ := hcut
    by_cases hf : f = { op := 6, what := 0, nar := false, d := 0, a := f.a, b := f.b, n := f.n, size := f.size, «to» := 0 }
    · have hE := insE_t (hB.out.trans hf)
      have HF := Lib.hid hf
      clear hf
      go_wp2_with fail
      refine (reg_any f.a _).mono ?_
      rintro _ _ ⟨rfl, rfl⟩
      obtain ⟨qa, hqa⟩ : ∃ qa, qa = regP f.a := ⟨_, rfl⟩
      have Hqa : Hid (regP f.a = qa) := Lib.hid hqa.symm
      rw [← hqa]
      clear hqa
      cases qa
      · have HV : Hid (r = false) := Lib.hid (by rw [HR.out]; unfold oneP; simp [H.out, eq_true HF.out, Hqa.out])
        go_wp2_with fail
        go_ret
        exact ⟨by rw [HV.out]; rfl, (Below.refl _ _).alloc (Nat.le_refl _) _⟩
      · go_wp2_with fail
        refine (reg_any f.b _).mono ?_
        rintro _ _ ⟨rfl, rfl⟩
        obtain ⟨qb, hqb⟩ : ∃ qb, qb = regP f.b := ⟨_, rfl⟩
        have Hqb : Hid (regP f.b = qb) := Lib.hid hqb.symm
        rw [← hqb]
        clear hqb
        cases qb
        · have HV : Hid (r = false) := Lib.hid (by rw [HR.out]; unfold oneP; simp [H.out, eq_true HF.out, Hqa.out, Hqb.out])
          go_wp2_with fail
          go_ret
          exact ⟨by rw [HV.out]; rfl, (Below.refl _ _).alloc (Nat.le_refl _) _⟩
        · go_wp2_with fail
          refine (rsized_any f.size _).mono ?_
          rintro _ _ ⟨rfl, rfl⟩
          obtain ⟨qsize, hqsize⟩ : ∃ qsize, qsize = sizedP f.size := ⟨_, rfl⟩
          have Hqsize : Hid (sizedP f.size = qsize) := Lib.hid hqsize.symm
          rw [← hqsize]
          clear hqsize
          cases qsize
          · have HV : Hid (r = false) := Lib.hid (by rw [HR.out]; unfold oneP; simp [H.out, eq_true HF.out, Hqa.out, Hqb.out, Hqsize.out])
            go_wp2_with fail
            go_ret
            exact ⟨by rw [HV.out]; rfl, (Below.refl _ _).alloc (Nat.le_refl _) _⟩
          · have HV : Hid (r = true) := Lib.hid (by rw [HR.out]; unfold oneP; simp [H.out, eq_true HF.out, Hqa.out, Hqb.out, Hqsize.out])
            go_wp2_with fail
            go_ret
            exact ⟨by rw [HV.out]; rfl, (Below.refl _ _).alloc (Nat.le_refl _) _⟩
    · have hE := insE_f (fun e => hf (hB.out.symm.trans e))
      have HF := Lib.hid hf
      clear hf
      have HV : Hid (r = false) := Lib.hid (by rw [HR.out]; unfold oneP; simp [H.out, eq_false HF.out])
      go_wp2_with fail
      go_ret
      exact ⟨by rw [HV.out]; rfl, (Below.refl _ _).alloc (Nat.le_refl _) _⟩
end Go.Proofs.YtdhfdlelnkoomaaDoor
