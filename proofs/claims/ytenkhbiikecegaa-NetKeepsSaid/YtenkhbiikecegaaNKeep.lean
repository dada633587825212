/- net: the stage's theorem. -/
import Derived.Test.YtenkhbiikecegaaNKm
namespace Go.Proofs.Ytenkhbiikecegaa
open Go.RowKit Go.Maps Go.ChangeMaps
set_option linter.unusedVariables false
set_option linter.unusedSimpArgs false
set_option maxRecDepth 100000

theorem Dos.at_ {w : World} {K : Nat → Prop} {A : Option Addr} {c : Nat} {xs : List DoV} (h : Dos w K A c xs) {k : Nat} (hk : k < xs.length) :
    ∃ a d D e, A = some a ∧ Hid (xs[k]? = some d) ∧ (∀ j, j < 5 → w.cell? ((a.add (k * 5)).add j) = (doC d D e)[j]?) ∧ Rd w K D e (u8s (bI d.u)) ∧ (I64 d.o ∧ I64 d.f ∧ I64 d.t ∧ I64 d.k) := by
  obtain ⟨a, e, hc⟩ := h.2.2.2 (by rintro rfl; simp at hk)
  obtain ⟨D, d, hb, hcell, hr, _, _, hi⟩ := hc k _ (List.getElem?_eq_getElem hk)
  exact ⟨a, _, D, d, e, List.getElem?_eq_getElem hk, hcell, hr, hi⟩
theorem do5 {w : World} {p : Addr} {x : DoV} {D : Option Addr} {d : Nat} (h : ∀ j, j < 5 → w.cell? (p.add j) = (doC x D d)[j]?) :
    w.cell? p = some (.int .i64 x.o) ∧ w.cell? ⟨p.block, p.off + 1, none⟩ = some (.int .i64 x.f) ∧ w.cell? ⟨p.block, p.off + 2, none⟩ = some (.int .i64 x.t) ∧ w.cell? ⟨p.block, p.off + 3, none⟩ = some (.int .i64 x.k) ∧ w.cell? ⟨p.block, p.off + 4, none⟩ = some (.slice D x.u.length d) :=
  ⟨h 0 (by omega), h 1 (by omega), h 2 (by omega), h 3 (by omega), h 4 (by omega)⟩
def z9 : Array Value := #[.slice none 0 0, .slice none 0 0, .slice none 0 0, .slice none 0 0, .slice none 0 0, .slice none 0 0, .slice none 0 0, .slice none 0 0, .slice none 0 0]
theorem mk9 (w : World) : (Instr.makeSlice 42 (.int .i64 9) (.int .i64 9)).run Try.prog w = .ok (.slice (some ⟨w.heap.size, 0, none⟩) 9 9) (w.alloc (.cells z9 45)) := by kernel_rfl
def k0 : KRow := ⟨.slice none 0 0, 0, []⟩
set_option maxHeartbeats 40000000 in
theorem NetKeeps_any (A : Option Addr) (c : Nat) (ds : List DoV) (w : World) (h : Dos w (fun b => b < w.heap.size) A c ds) :
    Calls Try.prog 4 #[.slice A ds.length c] w fun e w' => e = .returned (.bool true) ∧ Below w.heap.size w w' := by
  have hmax : ds.length ≤ maxLen := Nat.le_trans h.2.1 h.2.2.1
  unfold maxLen at hmax
  have H := Lib.hid h
  clear h
  go_enter Try.func4, Try.ntmps4
  go_wp2_with fail
  refine (awake_any w).mono ?_
  rintro _ w1 ⟨rfl, b1⟩
  go_wp2_with fail
  refine (op_new w1).mono ?_
  rintro _ w2 ⟨N, rfl, ⟨B0, hB0, n0⟩, b2⟩
  have b2' : Below w.heap.size w w2 := b1.trans (b2.mono b1.size)
  have HB := Lib.hid hB0
  clear hB0
  obtain ⟨i0, hi, hz, hz1, hz2⟩ := info_parts infoStr
  have hm := mk9
  go_wp2_with fail
  clear hm
  have hK0 : ∃ B S rs, KI w w2.heap.size N B S rs (w2.alloc (.cells z9 45)) ∧ KS S rs := by
    refine ⟨B0, _, List.replicate 9 k0, ⟨by simp, Bk.new w2 45 [.slice none 0 0, .slice none 0 0, .slice none 0 0, .slice none 0 0, .slice none 0 0, .slice none 0 0, .slice none 0 0, .slice none 0 0, .slice none 0 0], fun r hr => ?_, ?_, n0.below ((Below.refl _ _).alloc (Nat.le_refl _) _), fun j q => Nat.le_trans b1.size (HB.out j q), ⟨fun e => Nat.lt_irrefl _ (n0.lt e), b2'.size⟩, b2'.alloc b2'.size _⟩, fun a b => ?_⟩
    · obtain rfl := (List.mem_replicate.1 hr).2
      exact ⟨Row.nil _ _ _ _, fun e => by cases e⟩
    · refine List.pairwise_replicate.2 (.inr fun e => by cases e)
    · split
      · next q =>
        have hl : (3 * a + b).toNat < 9 := by omega
        rw [List.getD_eq_getElem?_getD, List.getElem?_replicate, if_pos hl]
        rfl
      · rfl
  generalize hG : w2.heap.size = G at *
  generalize (w2.alloc (.cells z9 45)) = W0 at *
  clear n0 b2 b1 HB b2' hG
  go_loopw [5] (fun i wr => ∃ k : Nat, k ≤ ds.length ∧ i = .int .i64 k ∧ ∃ B S rs, KI w G N B S rs wr ∧ KS S rs) (fun i _ => ds.length - (intOf i).toNat)
  case atStart => exact ⟨0, Nat.zero_le _, rfl, hK0⟩
  case round =>
    clear hK0
    obtain ⟨k, hk, rfl, B, S, rs, hI, hS⟩ := hrel
    by_cases hlt : k < ds.length
    · by_cases hlt2 : k < 100
      · have d1 : decide ((k : Int) < (ds.length : Int)) = true := decide_eq_true (by omega)
        have d2 : decide ((k : Int) < 100) = true := decide_eq_true (by omega)
        have hds := H.out.keep (w' := wr) (K' := fun b => b < w.heap.size) (fun b hb => hI.bel.block b hb) (fun _ q => q)
        obtain ⟨a, d, D, e, rfl, hxk, hca, hrd, i1, i2, i3, i4⟩ := hds.at_ hlt
        obtain ⟨c0, c1, c2, c3, c4⟩ := do5 hca
        clear hca hds hxk
        obtain ⟨dO, dF, dT, dK, u⟩ := d
        dsimp only at c0 c1 c2 c3 c4 hrd i1 i2 i3 i4
        have HS := Lib.hid hS
        clear hS
        by_cases h5 : 500 < u.length
        · have d5 : decide ((500 : Int) < (u.length : Int)) = true := decide_eq_true (by omega)
          go_wp2_with fail
          go_ret
          exact ⟨rfl, hI.bel.alloc hI.bel.size _⟩
        have d5 : decide ((500 : Int) < (u.length : Int)) = false := decide_eq_false (by omega)
        go_wp2_with fail
        clear c0 c1 c2 c3 c4
        have hbx := (Below.refl wr.heap.size wr).alloc (Nat.le_refl _) (.cells #[.int .i64 dO, .int .i64 dF, .int .i64 dT, .int .i64 dK, .slice D u.length e] 44)
        have bx := Bk.new wr 44 [.int .i64 dO, .int .i64 dF, .int .i64 dT, .int .i64 dK, .slice D u.length e]
        have hI1 := hI.below hbx
        have hXG : wr.heap.size ≠ G := fun e => by have := hI.bk.lt; omega
        have hXB : ∀ j, B j → j ≠ wr.heap.size := fun j hj e => by have := hI.net.lt hj; omega
        have hrd1 : Rd (wr.alloc (.cells #[.int .i64 dO, .int .i64 dF, .int .i64 dT, .int .i64 dK, .slice D u.length e] 44)) (fun b => b < w.heap.size) D e (u8s (bI u)) := hrd.keep (fun b hb => hbx.block b (Nat.lt_of_lt_of_le hb hI.bel.size)) (fun _ q => q)
        clear hbx hrd hI
        generalize (wr.alloc (.cells #[.int .i64 dO, .int .i64 dF, .int .i64 dT, .int .i64 dK, .slice D u.length e] 44)) = W1 at *
        generalize wr.heap.size = X at *
        obtain ⟨f, hf, hpf⟩ : ∃ f : Nat, f < 3 ∧ ∀ W, Calls Try.prog 13 #[.int .i64 dF, .int .i64 3] W fun e w' => e = .returned (.int .i64 f) ∧ w' = W := by
          have := pickI_range dF 3 (by omega)
          refine ⟨(pickI dF 3).toNat, by omega, fun W => (pick_any dF 3 W (by omega) (by omega)).mono fun e w' ⟨q1, q2⟩ => ⟨by rw [q1]; congr 2; omega, q2.symm⟩⟩
        obtain ⟨t, ht, hpt⟩ : ∃ t : Nat, t < 3 ∧ ∀ W, Calls Try.prog 13 #[.int .i64 dT, .int .i64 3] W fun e w' => e = .returned (.int .i64 t) ∧ w' = W := by
          have := pickI_range dT 3 (by omega)
          refine ⟨(pickI dT 3).toNat, by omega, fun W => (pick_any dT 3 W (by omega) (by omega)).mono fun e w' ⟨q1, q2⟩ => ⟨by rw [q1]; congr 2; omega, q2.symm⟩⟩
        have c0 := bx.cell 0
        have c1 := bx.cell 1
        have c2 := bx.cell 2
        have c3 := bx.cell 3
        have c4 := bx.cell 4
        simp only [List.getElem?_cons_zero, List.getElem?_cons_succ] at c0 c1 c2 c3 c4
        have HPF := Lib.hid hpf
        have HPT := Lib.hid hpt
        obtain ⟨oo, ho6, hpo⟩ : ∃ oo : Nat, oo < 6 ∧ ∀ W, Calls Try.prog 13 #[.int .i64 dO, .int .i64 6] W fun e w' => e = .returned (.int .i64 oo) ∧ w' = W := by
          have := pickI_range dO 6 (by omega)
          refine ⟨(pickI dO 6).toNat, by omega, fun W => (pick_any dO 6 W (by omega) (by omega)).mono fun e w' ⟨q1, q2⟩ => ⟨by rw [q1]; congr 2; omega, q2.symm⟩⟩
        have HPO := Lib.hid hpo
        clear hpf hpt hpo
        refine wp_region_held_drew (S := fun w' => w'.cell? ⟨X, 1, none⟩ = some (.int .i64 dF) ∧ w'.cell? ⟨X, 2, none⟩ = some (.int .i64 dT)) (by kernel_rfl) ⟨c1, c2⟩ (fun hS => ?_)
        refine wpAnyH_take (i := 0) (v := ?_) rfl (by kernel_rfl) (by kernel_rfl) (by kernel_rfl) (fun _ _ _ h => h) (Or.inl ⟨by rfl, ?_⟩) hS ?_
        rotate_left 1
        · intro w' hSw
          go_simp <;> with_reducible rfl
        try simp only [List.getElem_toArray, List.getElem_cons_zero, List.getElem_cons_succ, Act.put, List.setIfInBounds_toArray, List.set_cons_zero, List.set_cons_succ]
        refine wpAnyH_take (i := 1) (v := ?_) rfl (by kernel_rfl) (by kernel_rfl) (by kernel_rfl) (fun _ _ _ h => h) (Or.inl ⟨by rfl, ?_⟩) hS ?_
        rotate_left 1
        · intro w' hSw
          go_simp <;> with_reducible rfl
        try simp only [List.getElem_toArray, List.getElem_cons_zero, List.getElem_cons_succ, Act.put, List.setIfInBounds_toArray, List.set_cons_zero, List.set_cons_succ]
        refine wpAnyH_take (i := 3) (v := ?_) rfl (by kernel_rfl) (by kernel_rfl) (by kernel_rfl) (fun _ _ _ h => h) (Or.inl ⟨by rfl, ?_⟩) hS ?_
        rotate_left 1
        · intro w' hSw
          go_simp <;> with_reducible rfl
        try simp only [List.getElem_toArray, List.getElem_cons_zero, List.getElem_cons_succ, Act.put, List.setIfInBounds_toArray, List.set_cons_zero, List.set_cons_succ]
        refine wpAnyH_take (i := 4) (v := ?_) rfl (by kernel_rfl) (by kernel_rfl) (by kernel_rfl) (fun _ _ _ h => h) (Or.inl ⟨by rfl, ?_⟩) hS ?_
        rotate_left 1
        · intro w' hSw
          go_simp <;> with_reducible rfl
        try simp only [List.getElem_toArray, List.getElem_cons_zero, List.getElem_cons_succ, Act.put, List.setIfInBounds_toArray, List.set_cons_zero, List.set_cons_succ]
        refine wpAnyH_ready (rs := [2]) (by kernel_rfl) (by simp) (AllReadyH.cons rfl (fun K hK => ?_) AllReadyH.nil)
        go_simp
        go_at_call 13
        refine (HPF.out _).mono ?_
        rintro _ w_ ⟨rfl, rfl⟩
        go_simp
        refine hK _ _ hS (fun hS => ?_)
        clear hK K
        try simp only [List.getElem_toArray, List.getElem_cons_zero, List.getElem_cons_succ, Act.put, List.setIfInBounds_toArray, List.set_cons_zero, List.set_cons_succ]
        refine wpAnyH_ready (rs := [5]) (by kernel_rfl) (by simp) (AllReadyH.cons rfl (fun K hK => ?_) AllReadyH.nil)
        go_simp
        go_at_call 13
        refine (HPT.out _).mono ?_
        rintro _ w_ ⟨rfl, rfl⟩
        go_simp
        refine hK _ _ hS (fun hS => ?_)
        clear hK K
        try simp only [List.getElem_toArray, List.getElem_cons_zero, List.getElem_cons_succ, Act.put, List.setIfInBounds_toArray, List.set_cons_zero, List.set_cons_succ]
        refine wpAnyH_take (i := 6) (v := ?_) rfl (by kernel_rfl) (by kernel_rfl) (by kernel_rfl) (fun _ _ _ h => h) (Or.inl ⟨by rfl, ?_⟩) hS ?_
        rotate_left 1
        · intro w' hSw
          go_simp <;> with_reducible rfl
        try simp only [List.getElem_toArray, List.getElem_cons_zero, List.getElem_cons_succ, Act.put, List.setIfInBounds_toArray, List.set_cons_zero, List.set_cons_succ]
        refine wpAnyH_take (i := 7) (v := ?_) rfl (by kernel_rfl) (by kernel_rfl) (by kernel_rfl) (fun _ _ _ h => h) (Or.inl ⟨by rfl, ?_⟩) hS ?_
        rotate_left 1
        · intro w' hSw
          go_simp <;> with_reducible rfl
        try simp only [List.getElem_toArray, List.getElem_cons_zero, List.getElem_cons_succ, Act.put, List.setIfInBounds_toArray, List.set_cons_zero, List.set_cons_succ]
        refine wpAnyH_done (by kernel_rfl) ?_ _
        go_ways
        clear hS
        have hI := hI1.drew
        have hb1 := bx.drew
        have hrd := hrd1.keep (w' := W1.drew) (fun _ _ => rfl) (fun _ q => q)
        clear hI1 bx hrd1 c0 c1 c2 c3 c4
        generalize W1.drew = W at *
        have c0 := hb1.cell 0
        have c3 := hb1.cell 3
        have c4 := hb1.cell 4
        simp only [List.getElem?_cons_zero, List.getElem?_cons_succ] at c0 c3 c4
        obtain ⟨r, hri, hrm, hrc, hrD⟩ := hI.at_ (show 3 * f + t < 9 by omega)
        have hrow := (hI.row r hrm).1
        obtain ⟨RA, rc, erv, hRA⟩ := row_own hrow
        rw [erv] at hrc
        have hfew := hI.few HS.out hf ht hrD
        have hw1 : IntKind.i64.wrap (3 * (f : Int)) = ((3 * f : Nat) : Int) := IntWalk.i64_in _ (by omega)
        have hw2 : IntKind.i64.wrap (((3 * f : Nat) : Int) + (t : Int)) = ((3 * f + t : Nat) : Int) := IntWalk.i64_in _ (by omega)
        have hop : oo = 3 ∨ oo = 4 ∨ oo = 5 ∨ (((oo : Int) == 3) = false ∧ ((oo : Int) == 4) = false ∧ ((oo : Int) == 5) = false) := by
          by_cases q3 : oo = 3
          · exact .inl q3
          by_cases q4 : oo = 4
          · exact .inr (.inl q4)
          by_cases q5 : oo = 5
          · exact .inr (.inr (.inl q5))
          exact .inr (.inr (.inr ⟨beq_eq_false_iff_ne.2 (by omega), beq_eq_false_iff_ne.2 (by omega), beq_eq_false_iff_ne.2 (by omega)⟩))
        by_cases hin : 0 ≤ dK ∧ dK < r.us.length
        · obtain ⟨j, rfl⟩ := Int.eq_ofNat_of_zero_le hin.1
          have hj : j < r.us.length := by omega
          have dn : decide (0 ≤ (j : Int)) = true := decide_eq_true hin.1
          have dm : decide ((j : Int) < (r.us.length : Int)) = true := decide_eq_true hin.2
          obtain ⟨rfl, hown⟩ : RA = some ⟨r.g, 0, none⟩ ∧ r.v.ownBlock = some r.g := by
            rcases hRA with ⟨_, h0⟩ | ⟨h1, h2, _⟩
            · omega
            · exact ⟨h1, h2⟩
          clear hRA
          go_wp2_with fail
          refine (HPO.out _).mono ?_
          rintro _ w_ ⟨rfl, rfl⟩
          rcases hop with rfl | rfl | rfl | ⟨o3, o4, o5⟩
          · as_aux_lemma =>
              go_wp2_with fail
              refine (ki_take_in hI HS.out hf ht hrD hj).mono ?_
              rintro _ w3 ⟨A3, e3, rfl, ⟨⟨B3, S3, hI3, hS3⟩, hfr⟩, K3, hd3⟩
              have hb3 := (hfr X hb1.lt (fun q => hXB X q rfl)).trans hb1
              have c33 := Bk.cell hb3 3
              simp only [List.getElem?_cons_zero, List.getElem?_cons_succ] at c33
              have hrc3 := hI3.cellG hri
              rw [erv] at hrc3
              have hrow3 := (hI3.row r hrm).1
              have hst3 := KRow.at_ hrow3 hown hj
              have hcv : ∀ n, (convert 29 9 (.slice A3 (r.us[j]).length e3)).run Try.prog (w3.drewN n) = .ok (.string ⟨(r.us[j]).toArray⟩) (w3.drewN n) := fun n => str_rd (hd3.rd.1.keep (fun _ _ => rfl) (fun _ q => q))
              clear c0 c3 c4 hrc hI hb1 hrd hrow hfr
              go_wp2_with fail
              go_quiet (fail)
              have hI4 := hI3.drewN nq
              have hb4 := Bk.drewN hb3 nq
              have hrow4 := (hI4.row r hrm).1
              have c34 := Bk.cell hb4 3
              simp only [List.getElem?_cons_zero, List.getElem?_cons_succ] at c34
              have hrc4 := hI4.cellG hri
              rw [erv] at hrc4
              clear hcv hst3 hd3 hI3 hb3 hrow3 c33 hrc3
              generalize w3.drewN nq = w4 at *
              go_wp2_with fail
              have hle : r.us.length ≤ rc ∧ rc ≤ maxLen := by
                rcases hrow4.2 with ⟨q, _⟩ | ⟨cap, cur, q, _, q2, q3, _⟩
                · rw [erv] at q; cases q
                · rw [erv] at q; injection q with _ _ q; omega
              have hw3 : IntKind.i64.wrap ((j : Int) + 1) = ((j + 1 : Nat) : Int) := IntWalk.i64_in _ (by omega)
              have hw4 : IntKind.i64.wrap (3 * (f : Int) + (t : Int)) = ((3 * f + t : Nat) : Int) := IntWalk.i64_in _ (by omega)
              have hglt : r.g < w4.heap.size := ((hI4.row r hrm).2 hown).2.2
              have hX : ∀ w', Below w4.heap.size w4 w' → w'.cell? ⟨X, 3, none⟩ = some (.int .i64 j) := by
                intro w' hw'
                have := Bk.cell (Bk.below hb4 hw' (Bk.lt hb4)) 3
                simpa using this
              obtain ⟨ad, had, hnew⟩ : ∃ ad, (if rc = j + 1 then some (⟨r.g, 0, none⟩ : Addr) else some ⟨r.g, j + 1, none⟩) = some ad ∧ ∀ w', Below w4.heap.size w4 w' → ∀ q u, (r.cs.drop (j + 1))[q]? = some u → w'.cell? (ad.add q) = some u := by
                by_cases hck : rc = j + 1
                · refine ⟨_, if_pos hck, fun w' _ q u hu => ?_⟩
                  have hd : r.cs.drop (j + 1) = [] := List.drop_eq_nil_of_le (by unfold KRow.cs; rw [List.length_map]; omega)
                  rw [hd] at hu
                  cases hu
                · refine ⟨_, if_neg hck, fun w' hw' q u hu => ?_⟩
                  rw [List.getElem?_drop] at hu
                  have hadd : (⟨r.g, j + 1, none⟩ : Addr).add q = ⟨r.g, j + 1 + q, none⟩ := by unfold Addr.add; split <;> simp_all
                  rw [hadd]
                  exact (hrow4.keep (fun _ => hw'.block _ hglt)).cell0 hown hu
              have hold : ∀ w', Below w4.heap.size w4 w' → ∀ q u, (r.cs.take j)[q]? = some u → w'.cell? ((⟨r.g, 0, none⟩ : Addr).add q) = some u := by
                intro w' hw' q u hu
                rw [List.getElem?_take] at hu
                split at hu
                · exact (hrow4.keep (fun _ => hw'.block _ hglt)).cells (by rw [hown]; simp) q u hu
                · cases hu
              have hcsl : r.cs.length = r.us.length := by unfold KRow.cs; rw [List.length_map]
              have hone := r.one
              have hb5 : Below w4.heap.size w4 (w4.alloc (.cells #[] 9)).drew := ((Below.refl _ _).alloc (Nat.le_refl _) _).drew
              have hr5 : Row (w4.alloc (.cells #[] 9)).drew 9 1 (.slice (some ⟨w4.heap.size, 0, none⟩) 0 0) w4.heap.size 0 [] := ⟨rfl, .inr ⟨0, #[], rfl, heap_alloc_new w4 _, Nat.le_refl _, by decide, rfl, fun h => absurd h (Nat.lt_irrefl 0)⟩⟩
              have hs5 : w4.heap.size < (w4.alloc (.cells #[] 9)).drew.heap.size := by show _ < (w4.alloc _).heap.size; simp
              refine wp_region_held_drew (S := fun w' => w'.cell? ⟨X, 3, none⟩ = some (.int .i64 j)) (by kernel_rfl) c34 (fun hS => ?_)
              refine wpAnyH_take (i := 0) (v := ?_) rfl (by kernel_rfl) (by kernel_rfl) (by kernel_rfl) (fun _ _ _ h => h) (Or.inl ⟨by rfl, ?_⟩) hS ?_
              rotate_left 1
              · intro w' hSw
                go_simp <;> with_reducible rfl
              try simp only [List.getElem_toArray, List.getElem_cons_zero, List.getElem_cons_succ, Act.put, List.setIfInBounds_toArray, List.set_cons_zero, List.set_cons_succ]
              refine wpAnyH_take (i := 1) (v := ?_) rfl (by kernel_rfl) (by kernel_rfl) (by kernel_rfl) (fun _ _ _ h => h) (Or.inl ⟨by rfl, ?_⟩) hS ?_
              rotate_left 1
              · intro w' hSw
                go_simp <;> with_reducible rfl
              try simp only [List.getElem_toArray, List.getElem_cons_zero, List.getElem_cons_succ, Act.put, List.setIfInBounds_toArray, List.set_cons_zero, List.set_cons_succ]
              refine wpAnyH_take (i := 2) (v := ?_) rfl (by kernel_rfl) (by kernel_rfl) (by kernel_rfl) (fun _ _ _ h => h) (Or.inl ⟨by rfl, ?_⟩) hS ?_
              rotate_left 1
              · intro w' hSw
                go_simp <;> with_reducible rfl
              try simp only [List.getElem_toArray, List.getElem_cons_zero, List.getElem_cons_succ, Act.put, List.setIfInBounds_toArray, List.set_cons_zero, List.set_cons_succ]
              refine wpAnyH_take (i := 3) (v := ?_) rfl (by kernel_rfl) (by kernel_rfl) (by kernel_rfl) (fun _ _ _ h => h) (Or.inl ⟨by rfl, ?_⟩) hS ?_
              rotate_left 1
              · intro w' hSw
                go_simp <;> with_reducible rfl
              try simp only [List.getElem_toArray, List.getElem_cons_zero, List.getElem_cons_succ, Act.put, List.setIfInBounds_toArray, List.set_cons_zero, List.set_cons_succ]
              refine wpAnyH_take (i := 4) (v := ?_) rfl (by kernel_rfl) (by kernel_rfl) (by kernel_rfl) (fun _ _ _ h => h) (Or.inl ⟨by rfl, ?_⟩) hS ?_
              rotate_left 1
              · intro w' hSw
                go_simp <;> with_reducible rfl
              try simp only [List.getElem_toArray, List.getElem_cons_zero, List.getElem_cons_succ, Act.put, List.setIfInBounds_toArray, List.set_cons_zero, List.set_cons_succ]
              refine wpAnyH_take (i := 6) (v := ?_) rfl (by kernel_rfl) (by kernel_rfl) (by kernel_rfl) (fun _ _ _ h => h) (Or.inl ⟨by rfl, ?_⟩) hS ?_
              rotate_left 1
              · intro w' hSw
                go_simp <;> with_reducible rfl
              try simp only [List.getElem_toArray, List.getElem_cons_zero, List.getElem_cons_succ, Act.put, List.setIfInBounds_toArray, List.set_cons_zero, List.set_cons_succ]
              refine wpAnyH_take (i := 7) (v := ?_) rfl (by kernel_rfl) (by kernel_rfl) (by kernel_rfl) (fun _ _ _ h => h) (Or.inl ⟨by rfl, ?_⟩) hS ?_
              rotate_left 1
              · intro w' hSw
                go_simp <;> with_reducible rfl
              try simp only [List.getElem_toArray, List.getElem_cons_zero, List.getElem_cons_succ, Act.put, List.setIfInBounds_toArray, List.set_cons_zero, List.set_cons_succ]
              refine wpAnyH_take (i := 8) (v := ?_) rfl (by kernel_rfl) (by kernel_rfl) (by kernel_rfl) (fun _ _ _ h => h) (Or.inl ⟨by rfl, ?_⟩) hS ?_
              rotate_left 1
              · intro w' hSw
                go_simp <;> with_reducible rfl
              try simp only [List.getElem_toArray, List.getElem_cons_zero, List.getElem_cons_succ, Act.put, List.setIfInBounds_toArray, List.set_cons_zero, List.set_cons_succ]
              refine wpAnyH_take (i := 9) (v := ?_) rfl (by kernel_rfl) (by kernel_rfl) (by kernel_rfl) (fun _ _ _ h => h) (Or.inl ⟨by rfl, ?_⟩) hS ?_
              rotate_left 1
              · intro w' hSw
                go_simp; rw [if_pos (show j ≤ rc by omega)]
              try simp only [List.getElem_toArray, List.getElem_cons_zero, List.getElem_cons_succ, Act.put, List.setIfInBounds_toArray, List.set_cons_zero, List.set_cons_succ]
              refine wpAnyH_take (i := 11) (v := ?_) rfl (by kernel_rfl) (by kernel_rfl) (by kernel_rfl) (fun _ _ _ h => h) (Or.inl ⟨by rfl, ?_⟩) hS ?_
              rotate_left 1
              · intro w' hSw
                go_simp <;> with_reducible rfl
              try simp only [List.getElem_toArray, List.getElem_cons_zero, List.getElem_cons_succ, Act.put, List.setIfInBounds_toArray, List.set_cons_zero, List.set_cons_succ]
              refine wpAnyH_take (i := 12) (v := ?_) rfl (by kernel_rfl) (by kernel_rfl) (by kernel_rfl) (fun _ _ _ h => h) (Or.inl ⟨by rfl, ?_⟩) hS ?_
              rotate_left 1
              · intro w' hSw
                go_simp <;> with_reducible rfl
              try simp only [List.getElem_toArray, List.getElem_cons_zero, List.getElem_cons_succ, Act.put, List.setIfInBounds_toArray, List.set_cons_zero, List.set_cons_succ]
              refine wpAnyH_take (i := 13) (v := ?_) rfl (by kernel_rfl) (by kernel_rfl) (by kernel_rfl) (fun _ _ _ h => h) (Or.inl ⟨by rfl, ?_⟩) hS ?_
              rotate_left 1
              · intro w' hSw
                go_simp <;> with_reducible rfl
              try simp only [List.getElem_toArray, List.getElem_cons_zero, List.getElem_cons_succ, Act.put, List.setIfInBounds_toArray, List.set_cons_zero, List.set_cons_succ]
              refine wpAnyH_take (i := 14) (v := ?_) rfl (by kernel_rfl) (by kernel_rfl) (by kernel_rfl) (fun _ _ _ h => h) (Or.inl ⟨by rfl, ?_⟩) hS ?_
              rotate_left 1
              · intro w' hSw
                go_simp <;> with_reducible rfl
              try simp only [List.getElem_toArray, List.getElem_cons_zero, List.getElem_cons_succ, Act.put, List.setIfInBounds_toArray, List.set_cons_zero, List.set_cons_succ]
              refine wpAnyH_take (i := 15) (v := ?_) rfl (by kernel_rfl) (by kernel_rfl) (by kernel_rfl) (fun _ _ _ h => h) (Or.inl ⟨by rfl, ?_⟩) hS ?_
              rotate_left 1
              · intro w' hSw
                go_simp; rw [if_pos (show (0 : Int) ≤ (j : Int) + 1 ∧ (j : Int) + 1 ≤ (r.us.length : Int) from ⟨by omega, by omega⟩)]
              try simp only [List.getElem_toArray, List.getElem_cons_zero, List.getElem_cons_succ, Act.put, List.setIfInBounds_toArray, List.set_cons_zero, List.set_cons_succ]
              refine wpAnyH_ready (rs := [5]) (by kernel_rfl) (by simp) (AllReadyH.cons rfl (fun K hK => ?_) AllReadyH.nil)
              go_simp
              refine hK _ _ (hX _ hb5) (fun hS => ?_)
              clear hK K
              generalize ((w4.alloc (.cells #[] 9)).drew) = w5 at *
              try simp only [List.getElem_toArray, List.getElem_cons_zero, List.getElem_cons_succ, Act.put, List.setIfInBounds_toArray, List.set_cons_zero, List.set_cons_succ]
              refine wpAnyH_ready (rs := [10]) (by kernel_rfl) (by simp) (AllReadyH.cons rfl (fun K hK => ?_) AllReadyH.nil)
              refine step_append_rowZ _ (by rfl) (.tmp 185) (.tmp 189) 45 (by rfl) 9 i0 _ 1 16 Try.underlying45 hi hz hz1 hz2 rfl (.slice (some ⟨w4.heap.size, 0, none⟩) 0 0) w4.heap.size 0 [] (by rfl) hr5 rfl ⟨r.g, 0, none⟩ j rc (r.cs.take j) (by rfl) (by rw [List.length_take, hcsl]; omega) (hold _ hb5) (fun u hu => hone u (List.mem_of_mem_take hu)) (by unfold maxLen; omega) (by omega) ?_
              intro v6 w6 g6 hr6 hgr6 hv6 hg6 hlt6
              obtain ⟨cap6, rfl⟩ := hr6.form2 hv6
              have hb6 : Below w4.heap.size w4 w6 := hb5.grown hgr6 (by omega) (fun k e => by have e : some w4.heap.size = some k := e; injection e with e; omega)
              have hg6' : w4.heap.size ≤ g6 := by rcases hg6 with e | ⟨e, _⟩ <;> omega
              refine hK _ _ (hX _ hb6) (fun hS => ?_)
              clear hK K hgr6 hg6 hr5
              try simp only [List.getElem_toArray, List.getElem_cons_zero, List.getElem_cons_succ, Act.put, List.setIfInBounds_toArray, List.set_cons_zero, List.set_cons_succ]
              refine wpAnyH_ready (rs := [16]) (by kernel_rfl) (by simp) (AllReadyH.cons rfl (fun K hK => ?_) AllReadyH.nil)
              refine step_append_rowZ _ (by rfl) (.tmp 190) (.tmp 195) 45 (by rfl) 9 i0 _ 1 16 Try.underlying45 hi hz hz1 hz2 rfl _ g6 (0 + j) ([] ++ r.cs.take j) (by rfl) hr6 hv6 ad (r.us.length - (j + 1)) (rc - (j + 1)) (r.cs.drop (j + 1)) (by rfl) (by rw [List.length_drop, hcsl]; omega) (hnew _ hb6) (fun u hu => hone u (List.mem_of_mem_drop hu)) (by unfold maxLen; omega) (by omega) ?_
              intro v7 w7 g7 hr7 hgr7 hv7 hg7 hlt7
              obtain ⟨cap7, rfl⟩ := hr7.form2 hv7
              have hb7 : Below w4.heap.size w4 w7 := hb6.grown hgr7 hb6.size (fun k e => by have e : some g6 = some k := e; injection e with e; omega)
              have hg7' : w4.heap.size ≤ g7 := by rcases hg7 with e | ⟨e, _⟩ <;> (have := hb6.size; omega)
              have hlist : [] ++ r.cs.take j ++ r.cs.drop (j + 1) = (r.us.eraseIdx j).map strV := by unfold KRow.cs; rw [List.nil_append, List.eraseIdx_eq_take_drop_succ, List.map_append, List.map_take, List.map_drop]
              have hlen7 : 0 + j + (r.us.length - (j + 1)) = (r.us.eraseIdx j).length := by rw [List.length_eraseIdx_of_lt hj]; omega
              rw [hlist, hlen7] at hr7
              rw [hlen7]
              have hfin := hI4.fresh hri (us := r.us.eraseIdx j) hr7 hb7 hg7' hlt7 hS3
              have hG7 := Bk.below hI4.bk hb7 hI4.bk.lt
              have cG7 := hG7.cell (3 * f + t)
              have fG7 := hG7.frozen (3 * f + t)
              rw [List.getElem?_map, hri] at cG7
              simp only [Option.map_some] at cG7
              refine hK _ _ (hX _ hb7) (fun hS => ?_)
              clear hK K hgr7 hg7 hr6 hr7 hlist
              try simp only [List.getElem_toArray, List.getElem_cons_zero, List.getElem_cons_succ, Act.put, List.setIfInBounds_toArray, List.set_cons_zero, List.set_cons_succ]
              refine wpAnyH_take (i := 17) (v := ?_) rfl (by kernel_rfl) (by kernel_rfl) (by kernel_rfl) (fun _ _ _ h => h) (Or.inl ⟨by rfl, ?_⟩) hS ?_
              rotate_left 1
              · intro w' hSw
                go_simp; rw [if_pos (show (0 : Int) ≤ 3 * (f : Int) + (t : Int) ∧ 3 * (f : Int) + (t : Int) < 9 from ⟨by omega, by omega⟩), show (3 * (f : Int) + (t : Int)).toNat = 3 * f + t by omega]
              try simp only [List.getElem_toArray, List.getElem_cons_zero, List.getElem_cons_succ, Act.put, List.setIfInBounds_toArray, List.set_cons_zero, List.set_cons_succ]
              refine wpAnyH_ready (rs := [18]) (by kernel_rfl) (by simp) (AllReadyH.cons rfl (fun K hK => ?_) AllReadyH.nil)
              go_simp
              refine hK _ _ (by have := Bk.cell (Bk.far (Bk.below hb4 hb7 (Bk.lt hb4)) (p := ⟨G, 3 * f + t, none⟩) hXG (Value.slice (some ⟨g7, 0, none⟩) (r.us.eraseIdx j).length cap7)) 3; simpa using this) (fun hS => ?_)
              clear hK K
              try simp only [List.getElem_toArray, List.getElem_cons_zero, List.getElem_cons_succ, Act.put, List.setIfInBounds_toArray, List.set_cons_zero, List.set_cons_succ]
              refine wpAnyH_done (by kernel_rfl) ?_ _
              go_wp2_with fail
              go_roundw
              case rel => exact ⟨k + 1, by omega, by go_num, hfin⟩
              case measure => simp [intOf] <;> omega
          · as_aux_lemma =>
              go_wp2_with fail
              refine (ki_drop_in hI HS.out hf ht hrD hj).mono ?_
              rintro _ w3 ⟨rfl, ⟨B3, S3, hI3, hS3⟩, hfr⟩
              have hb3 := (hfr X hb1.lt (fun q => hXB X q rfl)).trans hb1
              have c33 := Bk.cell hb3 3
              simp only [List.getElem?_cons_zero, List.getElem?_cons_succ] at c33
              have hrc3 := hI3.cellG hri
              rw [erv] at hrc3
              have hrow3 := (hI3.row r hrm).1
              have hst3 := KRow.at_ hrow3 hown hj
              clear c0 c3 c4 hrc hI hb1 hrd hrow hfr
              go_wp2_with fail
              have hle : r.us.length ≤ rc ∧ rc ≤ maxLen := by
                rcases hrow3.2 with ⟨q, _⟩ | ⟨cap, cur, q, _, q2, q3, _⟩
                · rw [erv] at q; cases q
                · rw [erv] at q; injection q with _ _ q; omega
              have hw3 : IntKind.i64.wrap ((j : Int) + 1) = ((j + 1 : Nat) : Int) := IntWalk.i64_in _ (by omega)
              have hw4 : IntKind.i64.wrap (3 * (f : Int) + (t : Int)) = ((3 * f + t : Nat) : Int) := IntWalk.i64_in _ (by omega)
              have hglt : r.g < w3.heap.size := ((hI3.row r hrm).2 hown).2.2
              have hX : ∀ w', Below w3.heap.size w3 w' → w'.cell? ⟨X, 3, none⟩ = some (.int .i64 j) := by
                intro w' hw'
                have := Bk.cell (Bk.below hb3 hw' (Bk.lt hb3)) 3
                simpa using this
              obtain ⟨ad, had, hnew⟩ : ∃ ad, (if rc = j + 1 then some (⟨r.g, 0, none⟩ : Addr) else some ⟨r.g, j + 1, none⟩) = some ad ∧ ∀ w', Below w3.heap.size w3 w' → ∀ q u, (r.cs.drop (j + 1))[q]? = some u → w'.cell? (ad.add q) = some u := by
                by_cases hck : rc = j + 1
                · refine ⟨_, if_pos hck, fun w' _ q u hu => ?_⟩
                  have hd : r.cs.drop (j + 1) = [] := List.drop_eq_nil_of_le (by unfold KRow.cs; rw [List.length_map]; omega)
                  rw [hd] at hu
                  cases hu
                · refine ⟨_, if_neg hck, fun w' hw' q u hu => ?_⟩
                  rw [List.getElem?_drop] at hu
                  have hadd : (⟨r.g, j + 1, none⟩ : Addr).add q = ⟨r.g, j + 1 + q, none⟩ := by unfold Addr.add; split <;> simp_all
                  rw [hadd]
                  exact (hrow3.keep (fun _ => hw'.block _ hglt)).cell0 hown hu
              have hold : ∀ w', Below w3.heap.size w3 w' → ∀ q u, (r.cs.take j)[q]? = some u → w'.cell? ((⟨r.g, 0, none⟩ : Addr).add q) = some u := by
                intro w' hw' q u hu
                rw [List.getElem?_take] at hu
                split at hu
                · exact (hrow3.keep (fun _ => hw'.block _ hglt)).cells (by rw [hown]; simp) q u hu
                · cases hu
              have hcsl : r.cs.length = r.us.length := by unfold KRow.cs; rw [List.length_map]
              have hone := r.one
              have hb5 : Below w3.heap.size w3 (w3.alloc (.cells #[] 9)).drew := ((Below.refl _ _).alloc (Nat.le_refl _) _).drew
              have hr5 : Row (w3.alloc (.cells #[] 9)).drew 9 1 (.slice (some ⟨w3.heap.size, 0, none⟩) 0 0) w3.heap.size 0 [] := ⟨rfl, .inr ⟨0, #[], rfl, heap_alloc_new w3 _, Nat.le_refl _, by decide, rfl, fun h => absurd h (Nat.lt_irrefl 0)⟩⟩
              have hs5 : w3.heap.size < (w3.alloc (.cells #[] 9)).drew.heap.size := by show _ < (w3.alloc _).heap.size; simp
              refine wp_region_held_drew (S := fun w' => w'.cell? ⟨X, 3, none⟩ = some (.int .i64 j)) (by kernel_rfl) c33 (fun hS => ?_)
              refine wpAnyH_take (i := 0) (v := ?_) rfl (by kernel_rfl) (by kernel_rfl) (by kernel_rfl) (fun _ _ _ h => h) (Or.inl ⟨by rfl, ?_⟩) hS ?_
              rotate_left 1
              · intro w' hSw
                go_simp <;> with_reducible rfl
              try simp only [List.getElem_toArray, List.getElem_cons_zero, List.getElem_cons_succ, Act.put, List.setIfInBounds_toArray, List.set_cons_zero, List.set_cons_succ]
              refine wpAnyH_take (i := 1) (v := ?_) rfl (by kernel_rfl) (by kernel_rfl) (by kernel_rfl) (fun _ _ _ h => h) (Or.inl ⟨by rfl, ?_⟩) hS ?_
              rotate_left 1
              · intro w' hSw
                go_simp <;> with_reducible rfl
              try simp only [List.getElem_toArray, List.getElem_cons_zero, List.getElem_cons_succ, Act.put, List.setIfInBounds_toArray, List.set_cons_zero, List.set_cons_succ]
              refine wpAnyH_take (i := 2) (v := ?_) rfl (by kernel_rfl) (by kernel_rfl) (by kernel_rfl) (fun _ _ _ h => h) (Or.inl ⟨by rfl, ?_⟩) hS ?_
              rotate_left 1
              · intro w' hSw
                go_simp <;> with_reducible rfl
              try simp only [List.getElem_toArray, List.getElem_cons_zero, List.getElem_cons_succ, Act.put, List.setIfInBounds_toArray, List.set_cons_zero, List.set_cons_succ]
              refine wpAnyH_take (i := 3) (v := ?_) rfl (by kernel_rfl) (by kernel_rfl) (by kernel_rfl) (fun _ _ _ h => h) (Or.inl ⟨by rfl, ?_⟩) hS ?_
              rotate_left 1
              · intro w' hSw
                go_simp <;> with_reducible rfl
              try simp only [List.getElem_toArray, List.getElem_cons_zero, List.getElem_cons_succ, Act.put, List.setIfInBounds_toArray, List.set_cons_zero, List.set_cons_succ]
              refine wpAnyH_take (i := 4) (v := ?_) rfl (by kernel_rfl) (by kernel_rfl) (by kernel_rfl) (fun _ _ _ h => h) (Or.inl ⟨by rfl, ?_⟩) hS ?_
              rotate_left 1
              · intro w' hSw
                go_simp <;> with_reducible rfl
              try simp only [List.getElem_toArray, List.getElem_cons_zero, List.getElem_cons_succ, Act.put, List.setIfInBounds_toArray, List.set_cons_zero, List.set_cons_succ]
              refine wpAnyH_take (i := 6) (v := ?_) rfl (by kernel_rfl) (by kernel_rfl) (by kernel_rfl) (fun _ _ _ h => h) (Or.inl ⟨by rfl, ?_⟩) hS ?_
              rotate_left 1
              · intro w' hSw
                go_simp <;> with_reducible rfl
              try simp only [List.getElem_toArray, List.getElem_cons_zero, List.getElem_cons_succ, Act.put, List.setIfInBounds_toArray, List.set_cons_zero, List.set_cons_succ]
              refine wpAnyH_take (i := 7) (v := ?_) rfl (by kernel_rfl) (by kernel_rfl) (by kernel_rfl) (fun _ _ _ h => h) (Or.inl ⟨by rfl, ?_⟩) hS ?_
              rotate_left 1
              · intro w' hSw
                go_simp <;> with_reducible rfl
              try simp only [List.getElem_toArray, List.getElem_cons_zero, List.getElem_cons_succ, Act.put, List.setIfInBounds_toArray, List.set_cons_zero, List.set_cons_succ]
              refine wpAnyH_take (i := 8) (v := ?_) rfl (by kernel_rfl) (by kernel_rfl) (by kernel_rfl) (fun _ _ _ h => h) (Or.inl ⟨by rfl, ?_⟩) hS ?_
              rotate_left 1
              · intro w' hSw
                go_simp <;> with_reducible rfl
              try simp only [List.getElem_toArray, List.getElem_cons_zero, List.getElem_cons_succ, Act.put, List.setIfInBounds_toArray, List.set_cons_zero, List.set_cons_succ]
              refine wpAnyH_take (i := 9) (v := ?_) rfl (by kernel_rfl) (by kernel_rfl) (by kernel_rfl) (fun _ _ _ h => h) (Or.inl ⟨by rfl, ?_⟩) hS ?_
              rotate_left 1
              · intro w' hSw
                go_simp; rw [if_pos (show j ≤ rc by omega)]
              try simp only [List.getElem_toArray, List.getElem_cons_zero, List.getElem_cons_succ, Act.put, List.setIfInBounds_toArray, List.set_cons_zero, List.set_cons_succ]
              refine wpAnyH_take (i := 11) (v := ?_) rfl (by kernel_rfl) (by kernel_rfl) (by kernel_rfl) (fun _ _ _ h => h) (Or.inl ⟨by rfl, ?_⟩) hS ?_
              rotate_left 1
              · intro w' hSw
                go_simp <;> with_reducible rfl
              try simp only [List.getElem_toArray, List.getElem_cons_zero, List.getElem_cons_succ, Act.put, List.setIfInBounds_toArray, List.set_cons_zero, List.set_cons_succ]
              refine wpAnyH_take (i := 12) (v := ?_) rfl (by kernel_rfl) (by kernel_rfl) (by kernel_rfl) (fun _ _ _ h => h) (Or.inl ⟨by rfl, ?_⟩) hS ?_
              rotate_left 1
              · intro w' hSw
                go_simp <;> with_reducible rfl
              try simp only [List.getElem_toArray, List.getElem_cons_zero, List.getElem_cons_succ, Act.put, List.setIfInBounds_toArray, List.set_cons_zero, List.set_cons_succ]
              refine wpAnyH_take (i := 13) (v := ?_) rfl (by kernel_rfl) (by kernel_rfl) (by kernel_rfl) (fun _ _ _ h => h) (Or.inl ⟨by rfl, ?_⟩) hS ?_
              rotate_left 1
              · intro w' hSw
                go_simp <;> with_reducible rfl
              try simp only [List.getElem_toArray, List.getElem_cons_zero, List.getElem_cons_succ, Act.put, List.setIfInBounds_toArray, List.set_cons_zero, List.set_cons_succ]
              refine wpAnyH_take (i := 14) (v := ?_) rfl (by kernel_rfl) (by kernel_rfl) (by kernel_rfl) (fun _ _ _ h => h) (Or.inl ⟨by rfl, ?_⟩) hS ?_
              rotate_left 1
              · intro w' hSw
                go_simp <;> with_reducible rfl
              try simp only [List.getElem_toArray, List.getElem_cons_zero, List.getElem_cons_succ, Act.put, List.setIfInBounds_toArray, List.set_cons_zero, List.set_cons_succ]
              refine wpAnyH_take (i := 15) (v := ?_) rfl (by kernel_rfl) (by kernel_rfl) (by kernel_rfl) (fun _ _ _ h => h) (Or.inl ⟨by rfl, ?_⟩) hS ?_
              rotate_left 1
              · intro w' hSw
                go_simp; rw [if_pos (show (0 : Int) ≤ (j : Int) + 1 ∧ (j : Int) + 1 ≤ (r.us.length : Int) from ⟨by omega, by omega⟩)]
              try simp only [List.getElem_toArray, List.getElem_cons_zero, List.getElem_cons_succ, Act.put, List.setIfInBounds_toArray, List.set_cons_zero, List.set_cons_succ]
              refine wpAnyH_ready (rs := [5]) (by kernel_rfl) (by simp) (AllReadyH.cons rfl (fun K hK => ?_) AllReadyH.nil)
              go_simp
              refine hK _ _ (hX _ hb5) (fun hS => ?_)
              clear hK K
              generalize ((w3.alloc (.cells #[] 9)).drew) = w5 at *
              try simp only [List.getElem_toArray, List.getElem_cons_zero, List.getElem_cons_succ, Act.put, List.setIfInBounds_toArray, List.set_cons_zero, List.set_cons_succ]
              refine wpAnyH_ready (rs := [10]) (by kernel_rfl) (by simp) (AllReadyH.cons rfl (fun K hK => ?_) AllReadyH.nil)
              refine step_append_rowZ _ (by rfl) (.tmp 185) (.tmp 189) 45 (by rfl) 9 i0 _ 1 16 Try.underlying45 hi hz hz1 hz2 rfl (.slice (some ⟨w3.heap.size, 0, none⟩) 0 0) w3.heap.size 0 [] (by rfl) hr5 rfl ⟨r.g, 0, none⟩ j rc (r.cs.take j) (by rfl) (by rw [List.length_take, hcsl]; omega) (hold _ hb5) (fun u hu => hone u (List.mem_of_mem_take hu)) (by unfold maxLen; omega) (by omega) ?_
              intro v6 w6 g6 hr6 hgr6 hv6 hg6 hlt6
              obtain ⟨cap6, rfl⟩ := hr6.form2 hv6
              have hb6 : Below w3.heap.size w3 w6 := hb5.grown hgr6 (by omega) (fun k e => by have e : some w3.heap.size = some k := e; injection e with e; omega)
              have hg6' : w3.heap.size ≤ g6 := by rcases hg6 with e | ⟨e, _⟩ <;> omega
              refine hK _ _ (hX _ hb6) (fun hS => ?_)
              clear hK K hgr6 hg6 hr5
              try simp only [List.getElem_toArray, List.getElem_cons_zero, List.getElem_cons_succ, Act.put, List.setIfInBounds_toArray, List.set_cons_zero, List.set_cons_succ]
              refine wpAnyH_ready (rs := [16]) (by kernel_rfl) (by simp) (AllReadyH.cons rfl (fun K hK => ?_) AllReadyH.nil)
              refine step_append_rowZ _ (by rfl) (.tmp 190) (.tmp 195) 45 (by rfl) 9 i0 _ 1 16 Try.underlying45 hi hz hz1 hz2 rfl _ g6 (0 + j) ([] ++ r.cs.take j) (by rfl) hr6 hv6 ad (r.us.length - (j + 1)) (rc - (j + 1)) (r.cs.drop (j + 1)) (by rfl) (by rw [List.length_drop, hcsl]; omega) (hnew _ hb6) (fun u hu => hone u (List.mem_of_mem_drop hu)) (by unfold maxLen; omega) (by omega) ?_
              intro v7 w7 g7 hr7 hgr7 hv7 hg7 hlt7
              obtain ⟨cap7, rfl⟩ := hr7.form2 hv7
              have hb7 : Below w3.heap.size w3 w7 := hb6.grown hgr7 hb6.size (fun k e => by have e : some g6 = some k := e; injection e with e; omega)
              have hg7' : w3.heap.size ≤ g7 := by rcases hg7 with e | ⟨e, _⟩ <;> (have := hb6.size; omega)
              have hlist : [] ++ r.cs.take j ++ r.cs.drop (j + 1) = (r.us.eraseIdx j).map strV := by unfold KRow.cs; rw [List.nil_append, List.eraseIdx_eq_take_drop_succ, List.map_append, List.map_take, List.map_drop]
              have hlen7 : 0 + j + (r.us.length - (j + 1)) = (r.us.eraseIdx j).length := by rw [List.length_eraseIdx_of_lt hj]; omega
              rw [hlist, hlen7] at hr7
              rw [hlen7]
              have hfin := hI3.fresh hri (us := r.us.eraseIdx j) hr7 hb7 hg7' hlt7 hS3
              have hG7 := Bk.below hI3.bk hb7 hI3.bk.lt
              have cG7 := hG7.cell (3 * f + t)
              have fG7 := hG7.frozen (3 * f + t)
              rw [List.getElem?_map, hri] at cG7
              simp only [Option.map_some] at cG7
              refine hK _ _ (hX _ hb7) (fun hS => ?_)
              clear hK K hgr7 hg7 hr6 hr7 hlist
              try simp only [List.getElem_toArray, List.getElem_cons_zero, List.getElem_cons_succ, Act.put, List.setIfInBounds_toArray, List.set_cons_zero, List.set_cons_succ]
              refine wpAnyH_take (i := 17) (v := ?_) rfl (by kernel_rfl) (by kernel_rfl) (by kernel_rfl) (fun _ _ _ h => h) (Or.inl ⟨by rfl, ?_⟩) hS ?_
              rotate_left 1
              · intro w' hSw
                go_simp; rw [if_pos (show (0 : Int) ≤ 3 * (f : Int) + (t : Int) ∧ 3 * (f : Int) + (t : Int) < 9 from ⟨by omega, by omega⟩), show (3 * (f : Int) + (t : Int)).toNat = 3 * f + t by omega]
              try simp only [List.getElem_toArray, List.getElem_cons_zero, List.getElem_cons_succ, Act.put, List.setIfInBounds_toArray, List.set_cons_zero, List.set_cons_succ]
              refine wpAnyH_ready (rs := [18]) (by kernel_rfl) (by simp) (AllReadyH.cons rfl (fun K hK => ?_) AllReadyH.nil)
              go_simp
              refine hK _ _ (by have := Bk.cell (Bk.far (Bk.below hb3 hb7 (Bk.lt hb3)) (p := ⟨G, 3 * f + t, none⟩) hXG (Value.slice (some ⟨g7, 0, none⟩) (r.us.eraseIdx j).length cap7)) 3; simpa using this) (fun hS => ?_)
              clear hK K
              try simp only [List.getElem_toArray, List.getElem_cons_zero, List.getElem_cons_succ, Act.put, List.setIfInBounds_toArray, List.set_cons_zero, List.set_cons_succ]
              refine wpAnyH_done (by kernel_rfl) ?_ _
              go_wp2_with fail
              go_roundw
              case rel => exact ⟨k + 1, by omega, by go_num, hfin⟩
              case measure => simp [intOf] <;> omega
          · as_aux_lemma =>
              go_wp2_with fail
              by_cases h64 : r.us.length < 64
              · refine (ki_double_in hI HS.out hf ht hrD hj h64).mono ?_
                rintro _ w3 ⟨rfl, ⟨B3, S3, hI3, hS3⟩, hfr⟩
                have hb3 := (hfr X hb1.lt (fun q => hXB X q rfl)).trans hb1
                have c33 := Bk.cell hb3 3
                simp only [List.getElem?_cons_zero, List.getElem?_cons_succ] at c33
                have hrc3 := hI3.cellG hri
                rw [erv] at hrc3
                have hrow3 := (hI3.row r hrm).1
                have hst3 := KRow.at_ hrow3 hown hj
                have d64 : decide ((r.us.length : Int) < 64) = true := decide_eq_true (by omega)
                have HS3 := Lib.hid hS3
                clear hS3
                clear c0 c3 c4 hrc hI hb1 hrd hrow hfr
                have hI4 := hI3.below ((Below.refl _ _).alloc (Nat.le_refl _) (.cells #[.string ⟨(r.us[j]).toArray⟩] 9))
                have hrow4 := (hI4.row r hrm).1
                go_wp2_with (at_builtin; refine wpList_append_row _ rfl (.tmp 145) (.tmp 151) 45 rfl 9 i0 _ 1 16 Try.underlying45 hi hz hz1 hz2 rfl r.v r.g r.us.length r.cs (by rw [erv]; rfl) hrow4 ⟨w3.heap.size, 0, none⟩ 1 1 [.string ⟨(r.us[j]).toArray⟩] rfl rfl (news_new1 w3 (.string ⟨(r.us[j]).toArray⟩) 9) (by simp [Value.oneCell']) (by unfold maxLen; omega) (by omega) (by decide) ?_; intro v5 w5 g5 hrow5 hgr5 hv5 hg5 hlt5; obtain ⟨cap5, rfl⟩ := hrow5.form2 hv5; obtain ⟨cG5, fG5⟩ := hI4.gcell hri hgr5; rw [erv] at cG5; have hfin := hI4.put_ hri (us := r.us ++ [r.us[j]]) (by rw [List.length_append, List.map_append]; exact hrow5) hgr5 hv5 hg5 hlt5 HS3.out; clear hrow5 hgr5)
                go_roundw
                case rel => exact ⟨k + 1, by omega, by go_num, hfin⟩
                case measure => simp [intOf] <;> omega
              · refine (ki_double_full hI HS.out hf ht hrD hj (by omega)).mono ?_
                rintro _ w3 ⟨rfl, ⟨B3, S3, hI3, hS3⟩, hfr⟩
                have hb3 := (hfr X hb1.lt (fun q => hXB X q rfl)).trans hb1
                have c33 := Bk.cell hb3 3
                simp only [List.getElem?_cons_zero, List.getElem?_cons_succ] at c33
                have hrc3 := hI3.cellG hri
                rw [erv] at hrc3
                have hrow3 := (hI3.row r hrm).1
                have d64 : decide ((r.us.length : Int) < 64) = false := decide_eq_false (by omega)
                clear c0 c3 c4 hrc hI hb1 hrd hrow hfr
                have fG3 := hI3.bk.frozen (3 * f + t)
                have hfin := hI3.same hS3 hri
                rw [erv] at hfin
                go_wp2_with fail
                go_roundw
                case rel => exact ⟨k + 1, by omega, by go_num, hfin⟩
                case measure => simp [intOf] <;> omega
          · as_aux_lemma =>
              go_wp2_with fail
              by_cases h64 : r.us.length < 64
              · refine (ki_send_in hI HS.out hf ht hrD D e u (by omega) hrd (fun b hb => Nat.lt_of_lt_of_le hb hI.bel.size) h64).mono ?_
                rintro _ w3 ⟨rfl, ⟨B3, S3, hI3, hS3⟩, hfr⟩
                have hb3 := (hfr X hb1.lt (fun q => hXB X q rfl)).trans hb1
                have hrd3 : Rd w3 (fun b => b < w.heap.size) D e (u8s (bI u)) := hrd.keep (fun b hb => hfr b (Nat.lt_of_lt_of_le hb hI.bel.size) (fun q => by have := hI.hB b q; omega)) (fun _ q => q)
                have c43 := Bk.cell hb3 4
                simp only [List.getElem?_cons_zero, List.getElem?_cons_succ] at c43
                have hcv : (convert 29 9 (.slice D u.length e)).run Try.prog w3 = .ok (.string ⟨u.toArray⟩) w3 := str_rd hrd3
                have hrc3 := hI3.cellG hri
                rw [erv] at hrc3
                have d64 : decide ((r.us.length : Int) < 64) = true := decide_eq_true (by omega)
                have HS3 := Lib.hid hS3
                clear hS3 c0 c3 c4 hrc hI hb1 hrd hrow hfr
                have hI4 := hI3.below ((Below.refl _ _).alloc (Nat.le_refl _) (.cells #[.string ⟨u.toArray⟩] 9))
                have hrow4 := (hI4.row r hrm).1
                go_wp2_with (at_builtin; refine wpList_append_row _ rfl (.tmp 86) (.tmp 90) 45 rfl 9 i0 _ 1 16 Try.underlying45 hi hz hz1 hz2 rfl r.v r.g r.us.length r.cs (by rw [erv]; rfl) hrow4 ⟨w3.heap.size, 0, none⟩ 1 1 [.string ⟨u.toArray⟩] rfl rfl (news_new1 w3 (.string ⟨u.toArray⟩) 9) (by simp [Value.oneCell']) (by unfold maxLen; omega) (by omega) (by decide) ?_; intro v5 w5 g5 hrow5 hgr5 hv5 hg5 hlt5; obtain ⟨cap5, rfl⟩ := hrow5.form2 hv5; obtain ⟨cG5, fG5⟩ := hI4.gcell hri hgr5; have hfin := hI4.put_ hri (us := r.us ++ [u]) (by rw [List.length_append, List.map_append]; exact hrow5) hgr5 hv5 hg5 hlt5 HS3.out; clear hrow5 hgr5)
                go_roundw
                case rel => exact ⟨k + 1, by omega, by go_num, hfin⟩
                case measure => simp [intOf] <;> omega
              · refine (ki_send_full hI HS.out hf ht hrD D e u (by omega) hrd (fun b hb => Nat.lt_of_lt_of_le hb hI.bel.size) (by omega)).mono ?_
                rintro _ w3 ⟨rfl, ⟨B3, S3, hI3, hS3⟩, hfr⟩
                have d64 : decide ((r.us.length : Int) < 64) = false := decide_eq_false (by omega)
                clear c0 c3 c4 hrc hI hb1 hrd hrow hfr
                go_wp2_with fail
                go_roundw
                case rel => exact ⟨k + 1, by omega, by go_num, B3, S3, rs, hI3, hS3⟩
                case measure => simp [intOf] <;> omega
        by_cases hne : 0 ≤ dK
        · have dn : decide (0 ≤ dK) = true := decide_eq_true hne
          have dm : decide (dK < (r.us.length : Int)) = false := decide_eq_false (by omega)
          go_wp2_with fail
          refine (HPO.out _).mono ?_
          rintro _ w_ ⟨rfl, rfl⟩
          rcases hop with rfl | rfl | rfl | ⟨o3, o4, o5⟩
          · as_aux_lemma =>
              go_wp2_with fail
              refine (ki_take_out hI HS.out hf ht hrD hin).mono ?_
              rintro _ w3 ⟨A3, e3, rfl, ⟨B3, S3, hI3, hS3⟩, hfr⟩
              clear c0 c3 c4 hrc hI hb1 hrd hrow hfr
              go_wp2_with fail
              go_quiet (fail)
              go_wp2_with fail
              go_roundw
              case rel => exact ⟨k + 1, by omega, by go_num, B3, S3, rs, hI3.drewN _, hS3⟩
              case measure => simp [intOf] <;> omega
          · as_aux_lemma =>
              go_wp2_with fail
              refine (ki_drop_out hI HS.out hf ht hrD hin).mono ?_
              rintro _ w3 ⟨rfl, ⟨B3, S3, hI3, hS3⟩, hfr⟩
              clear c0 c3 c4 hrc hI hb1 hrd hrow hfr
              go_wp2_with fail
              go_roundw
              case rel => exact ⟨k + 1, by omega, by go_num, B3, S3, rs, hI3, hS3⟩
              case measure => simp [intOf] <;> omega
          · as_aux_lemma =>
              go_wp2_with fail
              refine (ki_double_out hI HS.out hf ht hrD hin).mono ?_
              rintro _ w3 ⟨rfl, ⟨B3, S3, hI3, hS3⟩, hfr⟩
              have hb3 := (hfr X hb1.lt (fun q => hXB X q rfl)).trans hb1
              have c33 := Bk.cell hb3 3
              simp only [List.getElem?_cons_zero, List.getElem?_cons_succ] at c33
              have hrc3 := hI3.cellG hri
              rw [erv] at hrc3
              have hrow3 := (hI3.row r hrm).1
              clear c0 c3 c4 hrc hI hb1 hrd hrow hfr
              have fG3 := hI3.bk.frozen (3 * f + t)
              have hfin := hI3.same hS3 hri
              rw [erv] at hfin
              go_wp2_with fail
              go_roundw
              case rel => exact ⟨k + 1, by omega, by go_num, hfin⟩
              case measure => simp [intOf] <;> omega
          · as_aux_lemma =>
              go_wp2_with fail
              by_cases h64 : r.us.length < 64
              · refine (ki_send_in hI HS.out hf ht hrD D e u (by omega) hrd (fun b hb => Nat.lt_of_lt_of_le hb hI.bel.size) h64).mono ?_
                rintro _ w3 ⟨rfl, ⟨B3, S3, hI3, hS3⟩, hfr⟩
                have hb3 := (hfr X hb1.lt (fun q => hXB X q rfl)).trans hb1
                have hrd3 : Rd w3 (fun b => b < w.heap.size) D e (u8s (bI u)) := hrd.keep (fun b hb => hfr b (Nat.lt_of_lt_of_le hb hI.bel.size) (fun q => by have := hI.hB b q; omega)) (fun _ q => q)
                have c43 := Bk.cell hb3 4
                simp only [List.getElem?_cons_zero, List.getElem?_cons_succ] at c43
                have hcv : (convert 29 9 (.slice D u.length e)).run Try.prog w3 = .ok (.string ⟨u.toArray⟩) w3 := str_rd hrd3
                have hrc3 := hI3.cellG hri
                rw [erv] at hrc3
                have d64 : decide ((r.us.length : Int) < 64) = true := decide_eq_true (by omega)
                have HS3 := Lib.hid hS3
                clear hS3 c0 c3 c4 hrc hI hb1 hrd hrow hfr
                have hI4 := hI3.below ((Below.refl _ _).alloc (Nat.le_refl _) (.cells #[.string ⟨u.toArray⟩] 9))
                have hrow4 := (hI4.row r hrm).1
                go_wp2_with (at_builtin; refine wpList_append_row _ rfl (.tmp 86) (.tmp 90) 45 rfl 9 i0 _ 1 16 Try.underlying45 hi hz hz1 hz2 rfl r.v r.g r.us.length r.cs (by rw [erv]; rfl) hrow4 ⟨w3.heap.size, 0, none⟩ 1 1 [.string ⟨u.toArray⟩] rfl rfl (news_new1 w3 (.string ⟨u.toArray⟩) 9) (by simp [Value.oneCell']) (by unfold maxLen; omega) (by omega) (by decide) ?_; intro v5 w5 g5 hrow5 hgr5 hv5 hg5 hlt5; obtain ⟨cap5, rfl⟩ := hrow5.form2 hv5; obtain ⟨cG5, fG5⟩ := hI4.gcell hri hgr5; have hfin := hI4.put_ hri (us := r.us ++ [u]) (by rw [List.length_append, List.map_append]; exact hrow5) hgr5 hv5 hg5 hlt5 HS3.out; clear hrow5 hgr5)
                go_roundw
                case rel => exact ⟨k + 1, by omega, by go_num, hfin⟩
                case measure => simp [intOf] <;> omega
              · refine (ki_send_full hI HS.out hf ht hrD D e u (by omega) hrd (fun b hb => Nat.lt_of_lt_of_le hb hI.bel.size) (by omega)).mono ?_
                rintro _ w3 ⟨rfl, ⟨B3, S3, hI3, hS3⟩, hfr⟩
                have d64 : decide ((r.us.length : Int) < 64) = false := decide_eq_false (by omega)
                clear c0 c3 c4 hrc hI hb1 hrd hrow hfr
                go_wp2_with fail
                go_roundw
                case rel => exact ⟨k + 1, by omega, by go_num, B3, S3, rs, hI3, hS3⟩
                case measure => simp [intOf] <;> omega
        · have dn : decide (0 ≤ dK) = false := decide_eq_false hne
          go_wp2_with fail
          refine (HPO.out _).mono ?_
          rintro _ w_ ⟨rfl, rfl⟩
          rcases hop with rfl | rfl | rfl | ⟨o3, o4, o5⟩
          · as_aux_lemma =>
              go_wp2_with fail
              refine (ki_take_out hI HS.out hf ht hrD hin).mono ?_
              rintro _ w3 ⟨A3, e3, rfl, ⟨B3, S3, hI3, hS3⟩, hfr⟩
              clear c0 c3 c4 hrc hI hb1 hrd hrow hfr
              go_wp2_with fail
              go_quiet (fail)
              go_wp2_with fail
              go_roundw
              case rel => exact ⟨k + 1, by omega, by go_num, B3, S3, rs, hI3.drewN _, hS3⟩
              case measure => simp [intOf] <;> omega
          · as_aux_lemma =>
              go_wp2_with fail
              refine (ki_drop_out hI HS.out hf ht hrD hin).mono ?_
              rintro _ w3 ⟨rfl, ⟨B3, S3, hI3, hS3⟩, hfr⟩
              clear c0 c3 c4 hrc hI hb1 hrd hrow hfr
              go_wp2_with fail
              go_roundw
              case rel => exact ⟨k + 1, by omega, by go_num, B3, S3, rs, hI3, hS3⟩
              case measure => simp [intOf] <;> omega
          · as_aux_lemma =>
              go_wp2_with fail
              refine (ki_double_out hI HS.out hf ht hrD hin).mono ?_
              rintro _ w3 ⟨rfl, ⟨B3, S3, hI3, hS3⟩, hfr⟩
              have hb3 := (hfr X hb1.lt (fun q => hXB X q rfl)).trans hb1
              have c33 := Bk.cell hb3 3
              simp only [List.getElem?_cons_zero, List.getElem?_cons_succ] at c33
              have hrc3 := hI3.cellG hri
              rw [erv] at hrc3
              have hrow3 := (hI3.row r hrm).1
              clear c0 c3 c4 hrc hI hb1 hrd hrow hfr
              have fG3 := hI3.bk.frozen (3 * f + t)
              have hfin := hI3.same hS3 hri
              rw [erv] at hfin
              go_wp2_with fail
              go_roundw
              case rel => exact ⟨k + 1, by omega, by go_num, hfin⟩
              case measure => simp [intOf] <;> omega
          · as_aux_lemma =>
              go_wp2_with fail
              by_cases h64 : r.us.length < 64
              · refine (ki_send_in hI HS.out hf ht hrD D e u (by omega) hrd (fun b hb => Nat.lt_of_lt_of_le hb hI.bel.size) h64).mono ?_
                rintro _ w3 ⟨rfl, ⟨B3, S3, hI3, hS3⟩, hfr⟩
                have hb3 := (hfr X hb1.lt (fun q => hXB X q rfl)).trans hb1
                have hrd3 : Rd w3 (fun b => b < w.heap.size) D e (u8s (bI u)) := hrd.keep (fun b hb => hfr b (Nat.lt_of_lt_of_le hb hI.bel.size) (fun q => by have := hI.hB b q; omega)) (fun _ q => q)
                have c43 := Bk.cell hb3 4
                simp only [List.getElem?_cons_zero, List.getElem?_cons_succ] at c43
                have hcv : (convert 29 9 (.slice D u.length e)).run Try.prog w3 = .ok (.string ⟨u.toArray⟩) w3 := str_rd hrd3
                have hrc3 := hI3.cellG hri
                rw [erv] at hrc3
                have d64 : decide ((r.us.length : Int) < 64) = true := decide_eq_true (by omega)
                have HS3 := Lib.hid hS3
                clear hS3 c0 c3 c4 hrc hI hb1 hrd hrow hfr
                have hI4 := hI3.below ((Below.refl _ _).alloc (Nat.le_refl _) (.cells #[.string ⟨u.toArray⟩] 9))
                have hrow4 := (hI4.row r hrm).1
                go_wp2_with (at_builtin; refine wpList_append_row _ rfl (.tmp 86) (.tmp 90) 45 rfl 9 i0 _ 1 16 Try.underlying45 hi hz hz1 hz2 rfl r.v r.g r.us.length r.cs (by rw [erv]; rfl) hrow4 ⟨w3.heap.size, 0, none⟩ 1 1 [.string ⟨u.toArray⟩] rfl rfl (news_new1 w3 (.string ⟨u.toArray⟩) 9) (by simp [Value.oneCell']) (by unfold maxLen; omega) (by omega) (by decide) ?_; intro v5 w5 g5 hrow5 hgr5 hv5 hg5 hlt5; obtain ⟨cap5, rfl⟩ := hrow5.form2 hv5; obtain ⟨cG5, fG5⟩ := hI4.gcell hri hgr5; have hfin := hI4.put_ hri (us := r.us ++ [u]) (by rw [List.length_append, List.map_append]; exact hrow5) hgr5 hv5 hg5 hlt5 HS3.out; clear hrow5 hgr5)
                go_roundw
                case rel => exact ⟨k + 1, by omega, by go_num, hfin⟩
                case measure => simp [intOf] <;> omega
              · refine (ki_send_full hI HS.out hf ht hrD D e u (by omega) hrd (fun b hb => Nat.lt_of_lt_of_le hb hI.bel.size) (by omega)).mono ?_
                rintro _ w3 ⟨rfl, ⟨B3, S3, hI3, hS3⟩, hfr⟩
                have d64 : decide ((r.us.length : Int) < 64) = false := decide_eq_false (by omega)
                clear c0 c3 c4 hrc hI hb1 hrd hrow hfr
                go_wp2_with fail
                go_roundw
                case rel => exact ⟨k + 1, by omega, by go_num, B3, S3, rs, hI3, hS3⟩
                case measure => simp [intOf] <;> omega
      · have d1 : decide ((k : Int) < (ds.length : Int)) = true := decide_eq_true (by omega)
        have d2 : decide ((k : Int) < 100) = false := decide_eq_false (by omega)
        as_aux_lemma =>
          have HS := Lib.hid hS
          clear hS
          go_wp2_with fail
          go_loopw [13, 14] (fun o i wq => ∃ q : Nat, q ≤ 9 ∧ i = .int .i64 q ∧ o = .int .i64 (cnt rs q) ∧ KI w G N B S rs wq) (fun _ i _ => 9 - (intOf i).toNat)
          case atStart => exact ⟨0, by omega, rfl, rfl, hI⟩
          case round =>
            clear hI
            obtain ⟨q, hq, rfl, rfl, hJ⟩ := hrel
            by_cases hq9 : q < 9
            · have dq : decide ((q : Int) < 9) = true := decide_eq_true (by omega)
              obtain ⟨r, hri, hrm, hrc, hrD⟩ := hJ.at_ hq9
              obtain ⟨RA, rc, erv, hRA⟩ := row_own (hJ.row r hrm).1
              rw [erv] at hrc
              go_wp2_with fail
              refine wp_region_held_drew (S := fun w' => w'.cell? ⟨G, q, none⟩ = some (.slice RA r.us.length rc)) (by kernel_rfl) hrc (fun hS => ?_)
              refine wpAnyH_take (i := 0) (v := ?_) rfl (by kernel_rfl) (by kernel_rfl) (by kernel_rfl) (fun _ _ _ h => h) (Or.inl ⟨by rfl, ?_⟩) hS ?_
              rotate_left 1
              · intro w' hSw
                go_simp <;> with_reducible rfl
              try simp only [List.getElem_toArray, List.getElem_cons_zero, List.getElem_cons_succ, Act.put, List.setIfInBounds_toArray, List.set_cons_zero, List.set_cons_succ]
              refine wpAnyH_take (i := 1) (v := ?_) rfl (by kernel_rfl) (by kernel_rfl) (by kernel_rfl) (fun _ _ _ h => h) (Or.inl ⟨by rfl, ?_⟩) hS ?_
              rotate_left 1
              · intro w' hSw
                go_simp <;> with_reducible rfl
              try simp only [List.getElem_toArray, List.getElem_cons_zero, List.getElem_cons_succ, Act.put, List.setIfInBounds_toArray, List.set_cons_zero, List.set_cons_succ]
              refine wpAnyH_take (i := 2) (v := ?_) rfl (by kernel_rfl) (by kernel_rfl) (by kernel_rfl) (fun _ _ _ h => h) (Or.inl ⟨by rfl, ?_⟩) hS ?_
              rotate_left 1
              · intro w' hSw
                go_simp <;> with_reducible rfl
              try simp only [List.getElem_toArray, List.getElem_cons_zero, List.getElem_cons_succ, Act.put, List.setIfInBounds_toArray, List.set_cons_zero, List.set_cons_succ]
              refine wpAnyH_take (i := 3) (v := ?_) rfl (by kernel_rfl) (by kernel_rfl) (by kernel_rfl) (fun _ _ _ h => h) (Or.inl ⟨by rfl, ?_⟩) hS ?_
              rotate_left 1
              · intro w' hSw
                go_simp <;> with_reducible rfl
              try simp only [List.getElem_toArray, List.getElem_cons_zero, List.getElem_cons_succ, Act.put, List.setIfInBounds_toArray, List.set_cons_zero, List.set_cons_succ]
              refine wpAnyH_take (i := 4) (v := ?_) rfl (by kernel_rfl) (by kernel_rfl) (by kernel_rfl) (fun _ _ _ h => h) (Or.inl ⟨by rfl, ?_⟩) hS ?_
              rotate_left 1
              · intro w' hSw
                go_simp <;> with_reducible rfl
              try simp only [List.getElem_toArray, List.getElem_cons_zero, List.getElem_cons_succ, Act.put, List.setIfInBounds_toArray, List.set_cons_zero, List.set_cons_succ]
              refine wpAnyH_take (i := 6) (v := ?_) rfl (by kernel_rfl) (by kernel_rfl) (by kernel_rfl) (fun _ _ _ h => h) (Or.inl ⟨by rfl, ?_⟩) hS ?_
              rotate_left 1
              · intro w' hSw
                go_simp <;> with_reducible rfl
              try simp only [List.getElem_toArray, List.getElem_cons_zero, List.getElem_cons_succ, Act.put, List.setIfInBounds_toArray, List.set_cons_zero, List.set_cons_succ]
              refine wpAnyH_take (i := 7) (v := ?_) rfl (by kernel_rfl) (by kernel_rfl) (by kernel_rfl) (fun _ _ _ h => h) (Or.inl ⟨by rfl, ?_⟩) hS ?_
              rotate_left 1
              · intro w' hSw
                go_simp <;> with_reducible rfl
              try simp only [List.getElem_toArray, List.getElem_cons_zero, List.getElem_cons_succ, Act.put, List.setIfInBounds_toArray, List.set_cons_zero, List.set_cons_succ]
              refine wpAnyH_take (i := 8) (v := ?_) rfl (by kernel_rfl) (by kernel_rfl) (by kernel_rfl) (fun _ _ _ h => h) (Or.inl ⟨by rfl, ?_⟩) hS ?_
              rotate_left 1
              · intro w' hSw
                go_simp; rw [if_pos (show (q : Int) < 9 by omega)]
              try simp only [List.getElem_toArray, List.getElem_cons_zero, List.getElem_cons_succ, Act.put, List.setIfInBounds_toArray, List.set_cons_zero, List.set_cons_succ]
              refine wpAnyH_take (i := 9) (v := ?_) rfl (by kernel_rfl) (by kernel_rfl) (by kernel_rfl) (fun _ _ _ h => h) (Or.inl ⟨by rfl, ?_⟩) hS ?_
              rotate_left 1
              · intro w' hSw
                go_simp <;> with_reducible rfl
              try simp only [List.getElem_toArray, List.getElem_cons_zero, List.getElem_cons_succ, Act.put, List.setIfInBounds_toArray, List.set_cons_zero, List.set_cons_succ]
              refine wpAnyH_take (i := 10) (v := ?_) rfl (by kernel_rfl) (by kernel_rfl) (by kernel_rfl) (fun _ _ _ h => h) (Or.inl ⟨by rfl, ?_⟩) hS ?_
              rotate_left 1
              · intro w' hSw
                go_simp <;> with_reducible rfl
              try simp only [List.getElem_toArray, List.getElem_cons_zero, List.getElem_cons_succ, Act.put, List.setIfInBounds_toArray, List.set_cons_zero, List.set_cons_succ]
              refine wpAnyH_ready (rs := [5]) (by kernel_rfl) (by simp) (AllReadyH.cons rfl (fun K hK => ?_) AllReadyH.nil)
              go_simp
              go_at_call 9
              rw [show IntKind.i64.wrap ((q : Int) / 3) = ((q / 3 : Nat) : Int) from (IntWalk.i64_in _ (by omega)).trans (by omega), show (q : Int).tmod 3 = ((q % 3 : Nat) : Int) from rfl]
              (with_reducible refine (ki_wait9 hJ.drew HS.out hq9 hrD).mono ?_)
              rintro _ w_ ⟨rfl, hbw⟩
              have hJ2 := hJ.drew.below hbw
              go_simp
              refine hK _ _ ((hJ2.cellG hri).trans (by rw [erv])) (fun hS => ?_)
              clear hK K
              try simp only [List.getElem_toArray, List.getElem_cons_zero, List.getElem_cons_succ, Act.put, List.setIfInBounds_toArray, List.set_cons_zero, List.set_cons_succ]
              refine wpAnyH_take (i := 11) (v := ?_) rfl (by kernel_rfl) (by kernel_rfl) (by kernel_rfl) (fun _ _ _ h => h) (Or.inl ⟨by rfl, ?_⟩) hS ?_
              rotate_left 1
              · intro w' hSw
                go_simp <;> with_reducible rfl
              try simp only [List.getElem_toArray, List.getElem_cons_zero, List.getElem_cons_succ, Act.put, List.setIfInBounds_toArray, List.set_cons_zero, List.set_cons_succ]
              refine wpAnyH_done (by kernel_rfl) ?_ _
              go_ways
              have hcn := cnt_le rs q
              have hrc2 := (hJ2.cellG hri).trans (by rw [erv])
              clear hJ hrc
              by_cases h0 : 0 < r.us.length
              · have d0 : decide ((0 : Int) < (r.us.length : Int)) = true := decide_eq_true (by omega)
                go_wp2_with fail
                go_roundw
                case rel => exact ⟨q + 1, by omega, by go_num, by rw [cnt_in hri h0]; go_num, hJ2⟩
                case measure => simp [intOf] <;> omega
              · have d0 : decide ((0 : Int) < (r.us.length : Int)) = false := decide_eq_false (by omega)
                go_wp2_with fail
                go_roundw
                case rel => exact ⟨q + 1, by omega, by go_num, by rw [cnt_out hri h0], hJ2⟩
                case measure => simp [intOf] <;> omega
            · have dq : decide ((q : Int) < 9) = false := decide_eq_false (by omega)
              obtain rfl : q = 9 := by omega
              have hL := ki_links hJ HS.out
              rw [← cnt_all hJ.len] at hL
              have hcn := cnt_le rs 9
              have hkp := HS.out.kp
              clear HS
              generalize cnt rs 9 = nn at *
              go_wp2_with fail
              (with_reducible refine hL.mono ?_)
              rintro _ w5 ⟨A5, c5, rfl, b5⟩
              have hJ5 := hJ.below b5
              clear hJ hL b5
              go_wp2_with fail
              go_loopw [15] (fun i wq => ∃ q : Nat, q ≤ 9 ∧ i = .int .i64 ((q : Int) - 1) ∧ ∃ B S, KI w G N B S rs wq ∧ KP S rs q) (fun i _ => (intOf i + 1).toNat)
              case atStart => exact ⟨9, by omega, rfl, B, S, hJ5, hkp⟩
              case round =>
                clear hJ5 hkp
                obtain ⟨q, hq, hqi, B5, S5, hJ, hP⟩ := hrel
                rcases q with _ | q
                · have hi0 : u15 = .int .i64 (-1) := hqi
                  subst hi0
                  have dq : decide ((0 : Int) ≤ -1) = false := by decide
                  go_wp2_with fail
                  (with_reducible refine (kp_links hJ hP).mono ?_)
                  rintro _ w8 ⟨A8, c8, rfl, b8⟩
                  go_wp2_with fail
                  go_ret
                  exact ⟨rfl, hJ.bel.trans (b8.mono hJ.bel.size)⟩
                · have hq9 : q < 9 := by omega
                  rw [show ((q + 1 : Nat) : Int) - 1 = (q : Int) by omega] at hqi
                  subst hqi
                  have dq : decide ((0 : Int) ≤ (q : Int)) = true := decide_eq_true (by omega)
                  obtain ⟨r, hri, hrm, _, hrD⟩ := hJ.at_ hq9
                  obtain ⟨RA, rc, erv, hRA⟩ := row_own (hJ.row r hrm).1
                  have hfewq : r.us.length ≤ maxLen := by
                    rcases (hJ.row r hrm).1.2 with ⟨_, e⟩ | ⟨cap, _, _, _, e1, e2, _⟩
                    · rw [e]; exact Nat.zero_le _
                    · exact Nat.le_trans e1 e2
                  unfold maxLen at hfewq
                  have hQ0 := hP.kq
                  clear hP
                  go_wp2_with fail
                  go_loopw [16] (fun i wq => ∃ m : Nat, m ≤ r.us.length ∧ i = .int .i64 m ∧ ∃ B S, KI w G N B S rs wq ∧ KQ S rs q m) (fun i _ => r.us.length - (intOf i).toNat)
                  case atStart => exact ⟨0, by omega, rfl, B5, S5, hJ, hQ0⟩
                  case round =>
                    clear hJ hQ0 hRA
                    obtain ⟨m, hm, rfl, B6, S6, hM, hQ⟩ := hrel
                    have HQ := Lib.hid hQ
                    clear hQ
                    have hrc6 := hM.cellG hri
                    rw [erv] at hrc6
                    by_cases hml : m < r.us.length
                    · have dm : decide ((m : Int) < (r.us.length : Int)) = true := decide_eq_true (by omega)
                      obtain ⟨A0, c0, erv2, hRA⟩ := row_own (hM.row r hrm).1
                      obtain ⟨rfl, hown⟩ : RA = some ⟨r.g, 0, none⟩ ∧ r.v.ownBlock = some r.g := by
                        rw [erv] at erv2
                        injection erv2 with e1
                        rcases hRA with ⟨_, h0⟩ | ⟨h1, h2, _⟩
                        · omega
                        · exact ⟨e1.trans h1, h2⟩
                      clear hRA erv2
                      go_wp2_with fail
                      rw [show (q : Int) / 3 = ((q / 3 : Nat) : Int) by omega, show (q : Int) % 3 = ((q % 3 : Nat) : Int) by omega]
                      (with_reducible refine (kq_take hM HQ.out hq9 hrD hml).mono ?_)
                      rintro _ w6 ⟨A6, c6, rfl, ⟨B7, S7, hM7, hQ7⟩, K7, hd7⟩
                      have hst7 := KRow.at_ (hM7.row r hrm).1 hown hml
                      have hrc7 := hM7.cellG hri
                      rw [erv] at hrc7
                      have hcv : ∀ n, (convert 29 9 (.slice A6 (r.us[m]).length c6)).run Try.prog (w6.drewN n) = .ok (.string ⟨(r.us[m]).toArray⟩) (w6.drewN n) := fun n => str_rd (hd7.rd.1.keep (fun _ _ => rfl) (fun _ q => q))
                      have HQ7 := Lib.hid hQ7
                      clear hQ7 hM hrc6 hd7
                      go_wp2_with fail
                      go_quiet (fail)
                      go_wp2_with fail
                      go_roundw
                      case rel => exact ⟨m + 1, by omega, by go_num, B7, S7, hM7.drewN _, HQ7.out⟩
                      case measure => simp [intOf] <;> omega
                    · have dm : decide ((m : Int) < (r.us.length : Int)) = false := decide_eq_false (by omega)
                      have hP6 := HQ.out.kp (by rw [hrD]; omega)
                      go_wp2_with fail
                      go_roundw
                      case rel => exact ⟨q, by omega, rfl, B6, S6, hM, hP6⟩
                      case measure => simp [intOf] <;> omega
    · have d1 : decide ((k : Int) < (ds.length : Int)) = false := decide_eq_false (by omega)
      as_aux_lemma =>
        have HS := Lib.hid hS
        clear hS
        go_wp2_with fail
        go_loopw [13, 14] (fun o i wq => ∃ q : Nat, q ≤ 9 ∧ i = .int .i64 q ∧ o = .int .i64 (cnt rs q) ∧ KI w G N B S rs wq) (fun _ i _ => 9 - (intOf i).toNat)
        case atStart => exact ⟨0, by omega, rfl, rfl, hI⟩
        case round =>
          clear hI
          obtain ⟨q, hq, rfl, rfl, hJ⟩ := hrel
          by_cases hq9 : q < 9
          · have dq : decide ((q : Int) < 9) = true := decide_eq_true (by omega)
            obtain ⟨r, hri, hrm, hrc, hrD⟩ := hJ.at_ hq9
            obtain ⟨RA, rc, erv, hRA⟩ := row_own (hJ.row r hrm).1
            rw [erv] at hrc
            go_wp2_with fail
            refine wp_region_held_drew (S := fun w' => w'.cell? ⟨G, q, none⟩ = some (.slice RA r.us.length rc)) (by kernel_rfl) hrc (fun hS => ?_)
            refine wpAnyH_take (i := 0) (v := ?_) rfl (by kernel_rfl) (by kernel_rfl) (by kernel_rfl) (fun _ _ _ h => h) (Or.inl ⟨by rfl, ?_⟩) hS ?_
            rotate_left 1
            · intro w' hSw
              go_simp <;> with_reducible rfl
            try simp only [List.getElem_toArray, List.getElem_cons_zero, List.getElem_cons_succ, Act.put, List.setIfInBounds_toArray, List.set_cons_zero, List.set_cons_succ]
            refine wpAnyH_take (i := 1) (v := ?_) rfl (by kernel_rfl) (by kernel_rfl) (by kernel_rfl) (fun _ _ _ h => h) (Or.inl ⟨by rfl, ?_⟩) hS ?_
            rotate_left 1
            · intro w' hSw
              go_simp <;> with_reducible rfl
            try simp only [List.getElem_toArray, List.getElem_cons_zero, List.getElem_cons_succ, Act.put, List.setIfInBounds_toArray, List.set_cons_zero, List.set_cons_succ]
            refine wpAnyH_take (i := 2) (v := ?_) rfl (by kernel_rfl) (by kernel_rfl) (by kernel_rfl) (fun _ _ _ h => h) (Or.inl ⟨by rfl, ?_⟩) hS ?_
            rotate_left 1
            · intro w' hSw
              go_simp <;> with_reducible rfl
            try simp only [List.getElem_toArray, List.getElem_cons_zero, List.getElem_cons_succ, Act.put, List.setIfInBounds_toArray, List.set_cons_zero, List.set_cons_succ]
            refine wpAnyH_take (i := 3) (v := ?_) rfl (by kernel_rfl) (by kernel_rfl) (by kernel_rfl) (fun _ _ _ h => h) (Or.inl ⟨by rfl, ?_⟩) hS ?_
            rotate_left 1
            · intro w' hSw
              go_simp <;> with_reducible rfl
            try simp only [List.getElem_toArray, List.getElem_cons_zero, List.getElem_cons_succ, Act.put, List.setIfInBounds_toArray, List.set_cons_zero, List.set_cons_succ]
            refine wpAnyH_take (i := 4) (v := ?_) rfl (by kernel_rfl) (by kernel_rfl) (by kernel_rfl) (fun _ _ _ h => h) (Or.inl ⟨by rfl, ?_⟩) hS ?_
            rotate_left 1
            · intro w' hSw
              go_simp <;> with_reducible rfl
            try simp only [List.getElem_toArray, List.getElem_cons_zero, List.getElem_cons_succ, Act.put, List.setIfInBounds_toArray, List.set_cons_zero, List.set_cons_succ]
            refine wpAnyH_take (i := 6) (v := ?_) rfl (by kernel_rfl) (by kernel_rfl) (by kernel_rfl) (fun _ _ _ h => h) (Or.inl ⟨by rfl, ?_⟩) hS ?_
            rotate_left 1
            · intro w' hSw
              go_simp <;> with_reducible rfl
            try simp only [List.getElem_toArray, List.getElem_cons_zero, List.getElem_cons_succ, Act.put, List.setIfInBounds_toArray, List.set_cons_zero, List.set_cons_succ]
            refine wpAnyH_take (i := 7) (v := ?_) rfl (by kernel_rfl) (by kernel_rfl) (by kernel_rfl) (fun _ _ _ h => h) (Or.inl ⟨by rfl, ?_⟩) hS ?_
            rotate_left 1
            · intro w' hSw
              go_simp <;> with_reducible rfl
            try simp only [List.getElem_toArray, List.getElem_cons_zero, List.getElem_cons_succ, Act.put, List.setIfInBounds_toArray, List.set_cons_zero, List.set_cons_succ]
            refine wpAnyH_take (i := 8) (v := ?_) rfl (by kernel_rfl) (by kernel_rfl) (by kernel_rfl) (fun _ _ _ h => h) (Or.inl ⟨by rfl, ?_⟩) hS ?_
            rotate_left 1
            · intro w' hSw
              go_simp; rw [if_pos (show (q : Int) < 9 by omega)]
            try simp only [List.getElem_toArray, List.getElem_cons_zero, List.getElem_cons_succ, Act.put, List.setIfInBounds_toArray, List.set_cons_zero, List.set_cons_succ]
            refine wpAnyH_take (i := 9) (v := ?_) rfl (by kernel_rfl) (by kernel_rfl) (by kernel_rfl) (fun _ _ _ h => h) (Or.inl ⟨by rfl, ?_⟩) hS ?_
            rotate_left 1
            · intro w' hSw
              go_simp <;> with_reducible rfl
            try simp only [List.getElem_toArray, List.getElem_cons_zero, List.getElem_cons_succ, Act.put, List.setIfInBounds_toArray, List.set_cons_zero, List.set_cons_succ]
            refine wpAnyH_take (i := 10) (v := ?_) rfl (by kernel_rfl) (by kernel_rfl) (by kernel_rfl) (fun _ _ _ h => h) (Or.inl ⟨by rfl, ?_⟩) hS ?_
            rotate_left 1
            · intro w' hSw
              go_simp <;> with_reducible rfl
            try simp only [List.getElem_toArray, List.getElem_cons_zero, List.getElem_cons_succ, Act.put, List.setIfInBounds_toArray, List.set_cons_zero, List.set_cons_succ]
            refine wpAnyH_ready (rs := [5]) (by kernel_rfl) (by simp) (AllReadyH.cons rfl (fun K hK => ?_) AllReadyH.nil)
            go_simp
            go_at_call 9
            rw [show IntKind.i64.wrap ((q : Int) / 3) = ((q / 3 : Nat) : Int) from (IntWalk.i64_in _ (by omega)).trans (by omega), show (q : Int).tmod 3 = ((q % 3 : Nat) : Int) from rfl]
            (with_reducible refine (ki_wait9 hJ.drew HS.out hq9 hrD).mono ?_)
            rintro _ w_ ⟨rfl, hbw⟩
            have hJ2 := hJ.drew.below hbw
            go_simp
            refine hK _ _ ((hJ2.cellG hri).trans (by rw [erv])) (fun hS => ?_)
            clear hK K
            try simp only [List.getElem_toArray, List.getElem_cons_zero, List.getElem_cons_succ, Act.put, List.setIfInBounds_toArray, List.set_cons_zero, List.set_cons_succ]
            refine wpAnyH_take (i := 11) (v := ?_) rfl (by kernel_rfl) (by kernel_rfl) (by kernel_rfl) (fun _ _ _ h => h) (Or.inl ⟨by rfl, ?_⟩) hS ?_
            rotate_left 1
            · intro w' hSw
              go_simp <;> with_reducible rfl
            try simp only [List.getElem_toArray, List.getElem_cons_zero, List.getElem_cons_succ, Act.put, List.setIfInBounds_toArray, List.set_cons_zero, List.set_cons_succ]
            refine wpAnyH_done (by kernel_rfl) ?_ _
            go_ways
            have hcn := cnt_le rs q
            have hrc2 := (hJ2.cellG hri).trans (by rw [erv])
            clear hJ hrc
            by_cases h0 : 0 < r.us.length
            · have d0 : decide ((0 : Int) < (r.us.length : Int)) = true := decide_eq_true (by omega)
              go_wp2_with fail
              go_roundw
              case rel => exact ⟨q + 1, by omega, by go_num, by rw [cnt_in hri h0]; go_num, hJ2⟩
              case measure => simp [intOf] <;> omega
            · have d0 : decide ((0 : Int) < (r.us.length : Int)) = false := decide_eq_false (by omega)
              go_wp2_with fail
              go_roundw
              case rel => exact ⟨q + 1, by omega, by go_num, by rw [cnt_out hri h0], hJ2⟩
              case measure => simp [intOf] <;> omega
          · have dq : decide ((q : Int) < 9) = false := decide_eq_false (by omega)
            obtain rfl : q = 9 := by omega
            have hL := ki_links hJ HS.out
            rw [← cnt_all hJ.len] at hL
            have hcn := cnt_le rs 9
            have hkp := HS.out.kp
            clear HS
            generalize cnt rs 9 = nn at *
            go_wp2_with fail
            (with_reducible refine hL.mono ?_)
            rintro _ w5 ⟨A5, c5, rfl, b5⟩
            have hJ5 := hJ.below b5
            clear hJ hL b5
            go_wp2_with fail
            go_loopw [15] (fun i wq => ∃ q : Nat, q ≤ 9 ∧ i = .int .i64 ((q : Int) - 1) ∧ ∃ B S, KI w G N B S rs wq ∧ KP S rs q) (fun i _ => (intOf i + 1).toNat)
            case atStart => exact ⟨9, by omega, rfl, B, S, hJ5, hkp⟩
            case round =>
              clear hJ5 hkp
              obtain ⟨q, hq, hqi, B5, S5, hJ, hP⟩ := hrel
              rcases q with _ | q
              · have hi0 : u15 = .int .i64 (-1) := hqi
                subst hi0
                have dq : decide ((0 : Int) ≤ -1) = false := by decide
                go_wp2_with fail
                (with_reducible refine (kp_links hJ hP).mono ?_)
                rintro _ w8 ⟨A8, c8, rfl, b8⟩
                go_wp2_with fail
                go_ret
                exact ⟨rfl, hJ.bel.trans (b8.mono hJ.bel.size)⟩
              · have hq9 : q < 9 := by omega
                rw [show ((q + 1 : Nat) : Int) - 1 = (q : Int) by omega] at hqi
                subst hqi
                have dq : decide ((0 : Int) ≤ (q : Int)) = true := decide_eq_true (by omega)
                obtain ⟨r, hri, hrm, _, hrD⟩ := hJ.at_ hq9
                obtain ⟨RA, rc, erv, hRA⟩ := row_own (hJ.row r hrm).1
                have hfewq : r.us.length ≤ maxLen := by
                  rcases (hJ.row r hrm).1.2 with ⟨_, e⟩ | ⟨cap, _, _, _, e1, e2, _⟩
                  · rw [e]; exact Nat.zero_le _
                  · exact Nat.le_trans e1 e2
                unfold maxLen at hfewq
                have hQ0 := hP.kq
                clear hP
                go_wp2_with fail
                go_loopw [16] (fun i wq => ∃ m : Nat, m ≤ r.us.length ∧ i = .int .i64 m ∧ ∃ B S, KI w G N B S rs wq ∧ KQ S rs q m) (fun i _ => r.us.length - (intOf i).toNat)
                case atStart => exact ⟨0, by omega, rfl, B5, S5, hJ, hQ0⟩
                case round =>
                  clear hJ hQ0 hRA
                  obtain ⟨m, hm, rfl, B6, S6, hM, hQ⟩ := hrel
                  have HQ := Lib.hid hQ
                  clear hQ
                  have hrc6 := hM.cellG hri
                  rw [erv] at hrc6
                  by_cases hml : m < r.us.length
                  · have dm : decide ((m : Int) < (r.us.length : Int)) = true := decide_eq_true (by omega)
                    obtain ⟨A0, c0, erv2, hRA⟩ := row_own (hM.row r hrm).1
                    obtain ⟨rfl, hown⟩ : RA = some ⟨r.g, 0, none⟩ ∧ r.v.ownBlock = some r.g := by
                      rw [erv] at erv2
                      injection erv2 with e1
                      rcases hRA with ⟨_, h0⟩ | ⟨h1, h2, _⟩
                      · omega
                      · exact ⟨e1.trans h1, h2⟩
                    clear hRA erv2
                    go_wp2_with fail
                    rw [show (q : Int) / 3 = ((q / 3 : Nat) : Int) by omega, show (q : Int) % 3 = ((q % 3 : Nat) : Int) by omega]
                    (with_reducible refine (kq_take hM HQ.out hq9 hrD hml).mono ?_)
                    rintro _ w6 ⟨A6, c6, rfl, ⟨B7, S7, hM7, hQ7⟩, K7, hd7⟩
                    have hst7 := KRow.at_ (hM7.row r hrm).1 hown hml
                    have hrc7 := hM7.cellG hri
                    rw [erv] at hrc7
                    have hcv : ∀ n, (convert 29 9 (.slice A6 (r.us[m]).length c6)).run Try.prog (w6.drewN n) = .ok (.string ⟨(r.us[m]).toArray⟩) (w6.drewN n) := fun n => str_rd (hd7.rd.1.keep (fun _ _ => rfl) (fun _ q => q))
                    have HQ7 := Lib.hid hQ7
                    clear hQ7 hM hrc6 hd7
                    go_wp2_with fail
                    go_quiet (fail)
                    go_wp2_with fail
                    go_roundw
                    case rel => exact ⟨m + 1, by omega, by go_num, B7, S7, hM7.drewN _, HQ7.out⟩
                    case measure => simp [intOf] <;> omega
                  · have dm : decide ((m : Int) < (r.us.length : Int)) = false := decide_eq_false (by omega)
                    have hP6 := HQ.out.kp (by rw [hrD]; omega)
                    go_wp2_with fail
                    go_roundw
                    case rel => exact ⟨q, by omega, rfl, B6, S6, hM, hP6⟩
                    case measure => simp [intOf] <;> omega
end Go.Proofs.Ytenkhbiikecegaa

