/- The document's One: over this seat's program. -/
import Derived.Test.YtdhfdlelnkoomaaDoorROne1
import Derived.Deep.DeepCutAuto
namespace Go.Proofs.YtdhfdlelnkoomaaDoor
open Go.RowKit Go.Shelf
set_option linter.unusedVariables false
set_option maxRecDepth 100000
attribute [local go_sem high] eql_ins
set_option maxHeartbeats 4000000 in
theorem rone_alu (f : Ins) (i n : Int) (w : World) (h : f.op = 3) : Calls Tryd.prog 21 #[insA f, .int .i64 i, .int .i64 n] w fun e w' => e = .returned (.bool (oneP f i n)) ∧ Below w.heap.size w w' := by
  obtain ⟨r, hr⟩ : ∃ r, r = oneP f i n := ⟨_, rfl⟩
  rw [← hr]
  have HR : Hid (r = oneP f i n) := Lib.hid hr
  clear hr
  have hB : Hid ((⟨3, f.what, f.nar, f.d, f.a, f.b, f.n, f.size, f.to⟩ : Ins) = f) := Lib.hid (by rw [← h])
  unfold insA insV
  rw [h]
  have H := Lib.hid h
  clear h
  obtain ⟨q, hq⟩ : ∃ q, q = decide (i < f.to ∧ f.to < n) := ⟨_, rfl⟩
  have HQ : Hid (q = decide (i < f.to ∧ f.to < n)) := Lib.hid hq
  clear hq
  go_enter Tryd.func21, Tryd.ntmps21
  go_upto_region 1 with fail
  go_cut [7] (fun v wx => v = .bool q ∧ wx = w.alloc (.cells #[.int .u8 3, .int .u8 f.what, .bool f.nar, .int .i64 f.d, .int .i64 f.a, .int .i64 f.b, .int .u64 f.n, .int .i64 f.size, .int .i64 f.to] 35))
  case first =>
    by_cases h1 : i < f.to
    · have d1 : decide (i < f.to) = true := decide_eq_true h1
      by_cases h2 : f.to < n
      · have d2 : decide (f.to < n) = true := decide_eq_true h2
        have HV : Hid (q = true) := Lib.hid (by rw [HQ.out]; exact decide_eq_true ⟨h1, h2⟩)
        go_wp2_with fail
        go_meet
        exact ⟨by rw [HV.out], rfl⟩
      · have d2 : decide (f.to < n) = false := decide_eq_false h2
        have HV : Hid (q = false) := Lib.hid (by rw [HQ.out]; exact decide_eq_false (fun h => h2 h.2))
        go_wp2_with fail
        go_meet
        exact ⟨by rw [HV.out], rfl⟩
    · have d1 : decide (i < f.to) = false := decide_eq_false h1
      have HV : Hid (q = false) := Lib.hid (by rw [HQ.out]; exact decide_eq_false (fun h => h1 h.1))
      go_wp2_with fail
      go_meet
      exact ⟨by rw [HV.out], rfl⟩
  case rest =>
    obtain ⟨rfl, rfl⟩ := hcut
    by_cases hlo : f.what < 1
    · have dlo : decide (f.what < 1) = true := decide_eq_true hlo
      have HV : Hid (r = false) := Lib.hid (by rw [HR.out]; unfold oneP; simp [H.out, decide_eq_false (show ¬ (1 ≤ f.what ∧ f.what ≤ 13) from fun hh => by omega)])
      go_wp2_with fail
      go_ret
      exact ⟨by rw [HV.out]; rfl, (Below.refl _ _).alloc (Nat.le_refl _) _⟩
    · have dlo : decide (f.what < 1) = false := decide_eq_false hlo
      by_cases hhi : 13 < f.what
      · have dhi : decide (13 < f.what) = true := decide_eq_true hhi
        have HV : Hid (r = false) := Lib.hid (by rw [HR.out]; unfold oneP; simp [H.out, decide_eq_false (show ¬ (1 ≤ f.what ∧ f.what ≤ 13) from fun hh => by omega)])
        go_wp2_with fail
        go_ret
        exact ⟨by rw [HV.out]; rfl, (Below.refl _ _).alloc (Nat.le_refl _) _⟩
      · have dhi : decide (13 < f.what) = false := decide_eq_false hhi
        by_cases hw : f.what = 13
        · have dw : (f.what == 13) = true := by rw [hw]; rfl
          have HW := Lib.hid hw
          clear hw
          by_cases hb0 : f.b = 0
          · have db : (f.b != 0) = false := by rw [hb0]; rfl
            have HN : Hid ((f.what != 13 || f.b == 0) = true) := Lib.hid (by rw [hb0]; simp)
            clear hb0
            by_cases hf : f = { op := 3, what := f.what, nar := f.nar, d := f.d, a := f.a, b := f.b, n := 0, size := 0, «to» := 0 }
            · have hE := insE_t (hB.out.trans hf)
              have HF := Lib.hid hf
              clear hf
              go_wp2_with fail
              refine (reg_any f.d _).mono ?_
              rintro _ _ ⟨rfl, rfl⟩
              obtain ⟨qd, hqd⟩ : ∃ qd, qd = regP f.d := ⟨_, rfl⟩
              have Hqd : Hid (regP f.d = qd) := Lib.hid hqd.symm
              rw [← hqd]
              clear hqd
              cases qd
              · have HV : Hid (r = false) := Lib.hid (by rw [HR.out]; unfold oneP; simp [H.out, decide_eq_true (show (1 ≤ f.what ∧ f.what ≤ 13) from by omega), HN.out, eq_true HF.out, Hqd.out])
                go_wp2_with fail
                go_ret
                exact ⟨by rw [HV.out]; rfl, (Below.refl _ _).alloc (Nat.le_refl _) _⟩
              · go_wp2_with fail
                refine (reg_any f.a _).mono ?_
                rintro _ _ ⟨rfl, rfl⟩
                obtain ⟨qa, hqa⟩ : ∃ qa, qa = regP f.a := ⟨_, rfl⟩
                have Hqa : Hid (regP f.a = qa) := Lib.hid hqa.symm
                rw [← hqa]
                clear hqa
                cases qa
                · have HV : Hid (r = false) := Lib.hid (by rw [HR.out]; unfold oneP; simp [H.out, decide_eq_true (show (1 ≤ f.what ∧ f.what ≤ 13) from by omega), HN.out, eq_true HF.out, Hqd.out, Hqa.out])
                  go_wp2_with fail
                  go_ret
                  exact ⟨by rw [HV.out]; rfl, (Below.refl _ _).alloc (Nat.le_refl _) _⟩
                · go_wp2_with fail
                  refine (reg_any f.b _).mono ?_
                  rintro _ _ ⟨rfl, rfl⟩
                  obtain ⟨qb, hqb⟩ : ∃ qb, qb = regP f.b := ⟨_, rfl⟩
                  have Hqb : Hid (regP f.b = qb) := Lib.hid hqb.symm
                  rw [← hqb]
                  clear hqb
                  cases qb
                  · have HV : Hid (r = false) := Lib.hid (by rw [HR.out]; unfold oneP; simp [H.out, decide_eq_true (show (1 ≤ f.what ∧ f.what ≤ 13) from by omega), HN.out, eq_true HF.out, Hqd.out, Hqa.out, Hqb.out])
                    go_wp2_with fail
                    go_ret
                    exact ⟨by rw [HV.out]; rfl, (Below.refl _ _).alloc (Nat.le_refl _) _⟩
                  · have HV : Hid (r = true) := Lib.hid (by rw [HR.out]; unfold oneP; simp [H.out, decide_eq_true (show (1 ≤ f.what ∧ f.what ≤ 13) from by omega), HN.out, eq_true HF.out, Hqd.out, Hqa.out, Hqb.out])
                    go_wp2_with fail
                    go_ret
                    exact ⟨by rw [HV.out]; rfl, (Below.refl _ _).alloc (Nat.le_refl _) _⟩
            · have hE := insE_f (fun e => hf (hB.out.symm.trans e))
              have HF := Lib.hid hf
              clear hf
              have HV : Hid (r = false) := Lib.hid (by rw [HR.out]; unfold oneP; simp [H.out, decide_eq_true (show (1 ≤ f.what ∧ f.what ≤ 13) from by omega), HN.out, eq_false HF.out])
              go_wp2_with fail
              go_ret
              exact ⟨by rw [HV.out]; rfl, (Below.refl _ _).alloc (Nat.le_refl _) _⟩
          · have db : (f.b != 0) = true := by simpa using hb0
            have HN : Hid ((f.what != 13 || f.b == 0) = false) := Lib.hid (by rw [HW.out]; simpa using hb0)
            have HV : Hid (r = false) := Lib.hid (by rw [HR.out]; unfold oneP; simp [H.out, decide_eq_true (show (1 ≤ f.what ∧ f.what ≤ 13) from by omega), HN.out])
            go_wp2_with fail
            go_ret
            exact ⟨by rw [HV.out]; rfl, (Below.refl _ _).alloc (Nat.le_refl _) _⟩
        · have dw : (f.what == 13) = false := by simpa using hw
          have HN : Hid ((f.what != 13 || f.b == 0) = true) := Lib.hid (by simp [hw])
          by_cases hf : f = { op := 3, what := f.what, nar := f.nar, d := f.d, a := f.a, b := f.b, n := 0, size := 0, «to» := 0 }
          · have hE := insE_t (hB.out.trans hf)
            have HF := Lib.hid hf
            clear hf
            go_wp2_with fail
            refine (reg_any f.d _).mono ?_
            rintro _ _ ⟨rfl, rfl⟩
            obtain ⟨qd, hqd⟩ : ∃ qd, qd = regP f.d := ⟨_, rfl⟩
            have Hqd : Hid (regP f.d = qd) := Lib.hid hqd.symm
            rw [← hqd]
            clear hqd
            cases qd
            · have HV : Hid (r = false) := Lib.hid (by rw [HR.out]; unfold oneP; simp [H.out, decide_eq_true (show (1 ≤ f.what ∧ f.what ≤ 13) from by omega), HN.out, eq_true HF.out, Hqd.out])
              go_wp2_with fail
              go_ret
              exact ⟨by rw [HV.out]; rfl, (Below.refl _ _).alloc (Nat.le_refl _) _⟩
            · go_wp2_with fail
              refine (reg_any f.a _).mono ?_
              rintro _ _ ⟨rfl, rfl⟩
              obtain ⟨qa, hqa⟩ : ∃ qa, qa = regP f.a := ⟨_, rfl⟩
              have Hqa : Hid (regP f.a = qa) := Lib.hid hqa.symm
              rw [← hqa]
              clear hqa
              cases qa
              · have HV : Hid (r = false) := Lib.hid (by rw [HR.out]; unfold oneP; simp [H.out, decide_eq_true (show (1 ≤ f.what ∧ f.what ≤ 13) from by omega), HN.out, eq_true HF.out, Hqd.out, Hqa.out])
                go_wp2_with fail
                go_ret
                exact ⟨by rw [HV.out]; rfl, (Below.refl _ _).alloc (Nat.le_refl _) _⟩
              · go_wp2_with fail
                refine (reg_any f.b _).mono ?_
                rintro _ _ ⟨rfl, rfl⟩
                obtain ⟨qb, hqb⟩ : ∃ qb, qb = regP f.b := ⟨_, rfl⟩
                have Hqb : Hid (regP f.b = qb) := Lib.hid hqb.symm
                rw [← hqb]
                clear hqb
                cases qb
                · have HV : Hid (r = false) := Lib.hid (by rw [HR.out]; unfold oneP; simp [H.out, decide_eq_true (show (1 ≤ f.what ∧ f.what ≤ 13) from by omega), HN.out, eq_true HF.out, Hqd.out, Hqa.out, Hqb.out])
                  go_wp2_with fail
                  go_ret
                  exact ⟨by rw [HV.out]; rfl, (Below.refl _ _).alloc (Nat.le_refl _) _⟩
                · have HV : Hid (r = true) := Lib.hid (by rw [HR.out]; unfold oneP; simp [H.out, decide_eq_true (show (1 ≤ f.what ∧ f.what ≤ 13) from by omega), HN.out, eq_true HF.out, Hqd.out, Hqa.out, Hqb.out])
                  go_wp2_with fail
                  go_ret
                  exact ⟨by rw [HV.out]; rfl, (Below.refl _ _).alloc (Nat.le_refl _) _⟩
          · have hE := insE_f (fun e => hf (hB.out.symm.trans e))
            have HF := Lib.hid hf
            clear hf
            have HV : Hid (r = false) := Lib.hid (by rw [HR.out]; unfold oneP; simp [H.out, decide_eq_true (show (1 ≤ f.what ∧ f.what ≤ 13) from by omega), HN.out, eq_false HF.out])
            go_wp2_with fail
            go_ret
            exact ⟨by rw [HV.out]; rfl, (Below.refl _ _).alloc (Nat.le_refl _) _⟩
set_option maxHeartbeats 4000000 in
theorem rone_ask (f : Ins) (i n : Int) (w : World) (h : f.op = 8) : Calls Tryd.prog 21 #[insA f, .int .i64 i, .int .i64 n] w fun e w' => e = .returned (.bool (oneP f i n)) ∧ Below w.heap.size w w' := by
  obtain ⟨r, hr⟩ : ∃ r, r = oneP f i n := ⟨_, rfl⟩
  rw [← hr]
  have HR : Hid (r = oneP f i n) := Lib.hid hr
  clear hr
  have hB : Hid ((⟨8, f.what, f.nar, f.d, f.a, f.b, f.n, f.size, f.to⟩ : Ins) = f) := Lib.hid (by rw [← h])
  unfold insA insV
  rw [h]
  have H := Lib.hid h
  clear h
  obtain ⟨q, hq⟩ : ∃ q, q = decide (i < f.to ∧ f.to < n) := ⟨_, rfl⟩
  have HQ : Hid (q = decide (i < f.to ∧ f.to < n)) := Lib.hid hq
  clear hq
  go_enter Tryd.func21, Tryd.ntmps21
  go_upto_region 1 with fail
  go_cut [7] (fun v wx => v = .bool q ∧ wx = w.alloc (.cells #[.int .u8 8, .int .u8 f.what, .bool f.nar, .int .i64 f.d, .int .i64 f.a, .int .i64 f.b, .int .u64 f.n, .int .i64 f.size, .int .i64 f.to] 35))
  case first =>
    by_cases h1 : i < f.to
    · have d1 : decide (i < f.to) = true := decide_eq_true h1
      by_cases h2 : f.to < n
      · have d2 : decide (f.to < n) = true := decide_eq_true h2
        have HV : Hid (q = true) := Lib.hid (by rw [HQ.out]; exact decide_eq_true ⟨h1, h2⟩)
        go_wp2_with fail
        go_meet
        exact ⟨by rw [HV.out], rfl⟩
      · have d2 : decide (f.to < n) = false := decide_eq_false h2
        have HV : Hid (q = false) := Lib.hid (by rw [HQ.out]; exact decide_eq_false (fun h => h2 h.2))
        go_wp2_with fail
        go_meet
        exact ⟨by rw [HV.out], rfl⟩
    · have d1 : decide (i < f.to) = false := decide_eq_false h1
      have HV : Hid (q = false) := Lib.hid (by rw [HQ.out]; exact decide_eq_false (fun h => h1 h.1))
      go_wp2_with fail
      go_meet
      exact ⟨by rw [HV.out], rfl⟩
  case rest =>
    obtain ⟨rfl, rfl⟩ := hcut
    by_cases hf : f = { op := 8, what := f.what, nar := f.nar, d := 0, a := f.a, b := f.b, n := 0, size := 0, «to» := f.to }
    · have hE := insE_t (hB.out.trans hf)
      have HF := Lib.hid hf
      clear hf
      by_cases hlo : 17 ≤ f.what
      · have dlo : decide (17 ≤ f.what) = true := decide_eq_true hlo
        by_cases hhi : f.what ≤ 27
        · have dhi : decide (f.what ≤ 27) = true := decide_eq_true hhi
          go_wp2_with fail
          refine (reg_any f.a _).mono ?_
          rintro _ _ ⟨rfl, rfl⟩
          obtain ⟨qa, hqa⟩ : ∃ qa, qa = regP f.a := ⟨_, rfl⟩
          have Hqa : Hid (regP f.a = qa) := Lib.hid hqa.symm
          rw [← hqa]
          clear hqa
          cases qa
          · have HV : Hid (r = false) := Lib.hid (by rw [HR.out]; unfold oneP; simp [H.out, eq_true HF.out, hlo, hhi, Hqa.out])
            go_wp2_with fail
            go_ret
            exact ⟨by rw [HV.out]; rfl, (Below.refl _ _).alloc (Nat.le_refl _) _⟩
          · go_wp2_with fail
            refine (reg_any f.b _).mono ?_
            rintro _ _ ⟨rfl, rfl⟩
            obtain ⟨qb, hqb⟩ : ∃ qb, qb = regP f.b := ⟨_, rfl⟩
            have Hqb : Hid (regP f.b = qb) := Lib.hid hqb.symm
            rw [← hqb]
            clear hqb
            cases qb
            · have HV : Hid (r = false) := Lib.hid (by rw [HR.out]; unfold oneP; simp [H.out, eq_true HF.out, hlo, hhi, Hqa.out, Hqb.out])
              go_wp2_with fail
              go_ret
              exact ⟨by rw [HV.out]; rfl, (Below.refl _ _).alloc (Nat.le_refl _) _⟩
            · cases q
              · have HQ' : Hid ((decide (i < f.to ∧ f.to < n)) = false) := Lib.hid HQ.out.symm
                have HV : Hid (r = false) := Lib.hid (by rw [HR.out]; unfold oneP; simp [H.out, eq_true HF.out, hlo, hhi, Hqa.out, Hqb.out, HQ'.out])
                go_wp2_with fail
                go_ret
                exact ⟨by rw [HV.out]; rfl, (Below.refl _ _).alloc (Nat.le_refl _) _⟩
              · have HQ' : Hid ((decide (i < f.to ∧ f.to < n)) = true) := Lib.hid HQ.out.symm
                have HV : Hid (r = true) := Lib.hid (by rw [HR.out]; unfold oneP; simp [H.out, eq_true HF.out, hlo, hhi, Hqa.out, Hqb.out, HQ'.out])
                go_wp2_with fail
                go_ret
                exact ⟨by rw [HV.out]; rfl, (Below.refl _ _).alloc (Nat.le_refl _) _⟩
        · have dhi : decide (f.what ≤ 27) = false := decide_eq_false hhi
          have HV : Hid (r = false) := Lib.hid (by rw [HR.out]; unfold oneP; simp [H.out, eq_true HF.out, hlo, hhi])
          go_wp2_with fail
          go_ret
          exact ⟨by rw [HV.out]; rfl, (Below.refl _ _).alloc (Nat.le_refl _) _⟩
      · have dlo : decide (17 ≤ f.what) = false := decide_eq_false hlo
        have HV : Hid (r = false) := Lib.hid (by rw [HR.out]; unfold oneP; simp [H.out, eq_true HF.out, hlo])
        go_wp2_with fail
        go_ret
        exact ⟨by rw [HV.out]; rfl, (Below.refl _ _).alloc (Nat.le_refl _) _⟩
    · have hE := insE_f (fun e => hf (hB.out.symm.trans e))
      have HF := Lib.hid hf
      clear hf
      have HV : Hid (r = false) := Lib.hid (by rw [HR.out]; unfold oneP; simp [H.out, eq_false HF.out])
      go_wp2_with fail
      go_ret
      exact ⟨by rw [HV.out]; rfl, (Below.refl _ _).alloc (Nat.le_refl _) _⟩
end Go.Proofs.YtdhfdlelnkoomaaDoor
