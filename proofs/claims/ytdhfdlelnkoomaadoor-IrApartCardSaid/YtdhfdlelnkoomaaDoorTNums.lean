/- IrNumbers: its walk. -/
import Derived.Test.YtdhfdlelnkoomaaDoorTFull
namespace Go.Proofs.YtdhfdlelnkoomaaDoor
open Go.RowKit
set_option linter.unusedVariables false
set_option maxRecDepth 100000

def numsL : List Int := [-9223372036854775808, -1, 0, 1, 2, 3, 4, 5, 8, 12, 13, 14, 15, 16, 17, 27, 28, 29, 30, 31, 32, 255, 9223372036854775807]
def numsV : List Value := numsL.map (Value.int .i64)
theorem numsL_b : ∀ z ∈ numsL, -9223372036854775808 ≤ z ∧ z ≤ 9223372036854775807 := by decide
theorem numsV_at (n : Nat) (h : n < 23) : ∃ z, numsL[n]? = some z ∧ numsV[n]? = some (.int .i64 z) ∧ -9223372036854775808 ≤ z ∧ z ≤ 9223372036854775807 := by
  have e : numsL.length = 23 := rfl
  refine ⟨numsL[n], List.getElem?_eq_getElem _, ?_, numsL_b _ (List.getElem_mem _)⟩
  rw [numsV, List.getElem?_map, List.getElem?_eq_getElem (by rw [e]; exact h)]; rfl
/-- A code in a block, spare cells behind it. -/
def Cd (w : World) (g cap : Nat) (ys : List Ins) : Prop := (∃ ext, Bk w g 35 (flatV ys ++ ext)) ∧ ys.length ≤ cap ∧ cap ≤ maxLen
theorem Cd.inss {w : World} {g cap : Nat} {ys : List Ins} (h : Cd w g cap ys) : Inss w (fun b => b < w.heap.size) (some ⟨g, 0, none⟩) cap ys := by
  obtain ⟨⟨ext, h1⟩, h2, h3⟩ := h
  exact inss_bk h1 h2 h3
theorem Cd.lt {w : World} {g cap : Nat} {ys : List Ins} (h : Cd w g cap ys) : g < w.heap.size := h.1.elim fun _ x => x.lt
theorem Cd.below {w w' : World} {g cap : Nat} {ys : List Ins} (h : Cd w g cap ys) (hb : Below w.heap.size w w') : Cd w' g cap ys :=
  ⟨h.1.elim fun e x => ⟨e, x.below hb x.lt⟩, h.2⟩
theorem cd_own {w : World} {base n : Nat} {v : Value} {ys : List Ins} (h : w.ownsRow base 35 9 v n (flatV ys)) (hn : ys.length = n) (h0 : n ≠ 0) : ∃ g cap, v = .slice (some ⟨g, 0, none⟩) n cap ∧ base ≤ g ∧ Cd w g cap ys := by
  rcases h.2 with ⟨_, h1⟩ | ⟨g, cap, cur, hv, hb, hg, hnc, hcm, hcs, htake⟩
  · exact absurd h1 h0
  · refine ⟨g, cap, hv, hb, ⟨cur.toList.drop (n * 9), ?_⟩, by omega, hcm⟩
    unfold Bk
    rw [hg, ← htake, List.take_append_drop]
theorem Cd.take {w : World} {g cap : Nat} {ys : List Ins} (h : Cd w g cap ys) (i : Nat) : Cd w g cap (ys.take i) := by
  obtain ⟨⟨ext, h1⟩, h2, h3⟩ := h
  refine ⟨⟨flatV (ys.drop i) ++ ext, ?_⟩, by have := List.length_take_le i ys; simp; omega, h3⟩
  rw [← List.append_assoc, ← flatV_app, List.take_append_drop]
  exact h1
theorem flatV_cons (x : Ins) (xs : List Ins) : flatV (x :: xs) = insV x ++ flatV xs := by simp [flatV]
theorem insV_len (x : Ins) : (insV x).length = 9 := rfl
theorem flatV_set : ∀ (xs : List Ins) (i : Nat) (x y : Ins) (j : Nat) (u : Value), xs[i]? = some x → j < 9 → insV y = (insV x).set j u → (flatV xs).set (i * 9 + j) u = flatV (xs.set i y)
  | [], i, x, y, j, u, h, _, _ => by simp at h
  | z :: zs, 0, x, y, j, u, h, hj, he => by
    simp only [List.getElem?_cons_zero, Option.some.injEq] at h
    subst h
    rw [List.set_cons_zero, flatV_cons, flatV_cons, he, List.set_append_left _ _ (by rw [insV_len]; omega)]
    simp
  | z :: zs, i + 1, x, y, j, u, h, hj, he => by
    simp only [List.getElem?_cons_succ] at h
    rw [List.set_cons_succ, flatV_cons, flatV_cons, List.set_append_right _ _ (by rw [insV_len]; omega), insV_len, show (i + 1) * 9 + j - 9 = i * 9 + j by omega, flatV_set zs i x y j u h hj he]
theorem Cd.set {w : World} {g cap : Nat} {ys : List Ins} (h : Cd w g cap ys) {i : Nat} {x : Ins} (y : Ins) (j : Nat) (u : Value) (hx : ys[i]? = some x) (hj : j < 9) (he : insV y = (insV x).set j u) : Cd (w.setCell ⟨g, i * 9 + j, none⟩ u) g cap (ys.set i y) := by
  obtain ⟨⟨ext, h1⟩, h2, h3⟩ := h
  refine ⟨⟨ext, ?_⟩, by simpa using h2, h3⟩
  rw [← flatV_set ys i x y j u hx hj he]
  have hlt : i * 9 + j < (flatV ys).length := by
    rw [flatV_len]
    have := (List.getElem?_eq_some_iff.1 hx).1
    omega
  rw [← List.set_append_left _ _ hlt]
  exact h1.set _ u
theorem Cd.cell {w : World} {g cap : Nat} {ys : List Ins} (h : Cd w g cap ys) {i : Nat} {x : Ins} (hx : ys[i]? = some x) : (∀ j, j < 9 → w.cell? ⟨g, i * 9 + j, none⟩ = (insV x)[j]?) ∧ ∀ o, w.frozen? ⟨g, o, none⟩ = false := by
  obtain ⟨⟨ext, h1⟩, h2, h3⟩ := h
  refine ⟨fun j hj => ?_, fun o => h1.frozen o⟩
  rw [h1.cell, List.getElem?_append_left (by rw [flatV_len]; have := (List.getElem?_eq_some_iff.1 hx).1; omega), flatV_at ys i x hx j hj]
theorem right_n {g cap n : Nat} {ys : List Ins} {w : World} (h : Cd w g cap ys) (hn : ys.length = n) : Calls Tryd.prog 8 #[.slice (some ⟨g, 0, none⟩) n cap] w fun e w' => e = .returned (.bool (rightP ys)) ∧ Below w.heap.size w w' := by
  subst hn; exact right_any _ cap ys w h.inss
theorem rright_n {g cap n : Nat} {ys : List Ins} {w : World} (h : Cd w g cap ys) (hn : ys.length = n) : Calls Tryd.prog 9 #[.slice (some ⟨g, 0, none⟩) n cap] w fun e w' => e = .returned (.bool (rightP ys)) ∧ Below w.heap.size w w' := by
  subst hn; exact rright_any _ cap ys w h.inss
theorem text_n {g cap n : Nat} {ys : List Ins} {w : World} (h : Cd w g cap ys) (hn : ys.length = n) (hok : ∀ f ∈ ys, InsOk f) (ht : Tb w.heap.size w) : Calls Tryd.prog 10 #[.slice (some ⟨g, 0, none⟩) n cap] w fun e w' => e = .returned (.string ⟨(textP ys).toArray⟩) ∧ Below w.heap.size w w' := by
  subst hn; exact text_any _ cap ys w h.inss hok ht
theorem rtext_n {g cap n : Nat} {ys : List Ins} {w : World} (h : Cd w g cap ys) (hn : ys.length = n) (hok : ∀ f ∈ ys, InsOk f) (ht : Tb w.heap.size w) : Calls Tryd.prog 11 #[.slice (some ⟨g, 0, none⟩) n cap] w fun e w' => e = .returned (.string ⟨(textP ys).toArray⟩) ∧ Below w.heap.size w w' := by
  subst hn; exact rtext_any _ cap ys w h.inss hok ht
theorem fullL_len : fullL.length = 31 := by decide
theorem fullL_ok : ∀ f ∈ fullL, InsOk f := by
  have h : ∀ f ∈ fullL, (0 ≤ f.what ∧ 0 ≤ f.n ∧ f.n ≤ 18446744073709551615) := by decide
  exact fun f hf => ⟨(h f hf).1, (h f hf).2.1, (h f hf).2.2⟩
theorem set_ok {ys : List Ins} (h : ∀ f ∈ ys, InsOk f) (i : Nat) {y : Ins} (hy : InsOk y) : ∀ f ∈ ys.set i y, InsOk f := by
  intro f hf
  rcases List.mem_or_eq_of_mem_set hf with h1 | h1
  · exact h f h1
  · rw [h1]; exact hy

def endsL (k : Nat) : List Ins := (List.range k).map fun (i : Nat) => endI ((i : Int) % 16)
def endsT (k : Nat) : List Ins := (List.range k).map fun (i : Nat) => endI (((i + 1 : Nat) : Int) % 16)
theorem endsL_succ (k : Nat) : endsL (k + 1) = endsL k ++ [endI ((k : Int) % 16)] := by simp [endsL, List.range_succ]
theorem endsL_cons (m : Nat) : endsL (m + 1) = endI 0 :: endsT m := by
  simp only [endsL, endsT, List.range_succ_eq_map, List.map_cons, List.map_map]
  rfl
theorem endsL_len (k : Nat) : (endsL k).length = k := by simp [endsL]
theorem endsT_len (k : Nat) : (endsT k).length = k := by simp [endsT]
theorem one_endI (a i n : Int) (h0 : 0 ≤ a) (h1 : a ≤ 15) : oneP (endI a) i n = true := by
  simp [oneP, endI, regP, h0, h1]
theorem endsT_right (m : Nat) (h1 : 1 ≤ m) (h2 : m ≤ 16384) : rightP (endsT m) = true := by
  refine right_t _ (by rw [endsT_len]; exact h1) (by rw [endsT_len]; exact h2) ?_ ?_
  · rw [List.getLast?_eq_getElem?, endsT_len]
    simp only [endsT, List.getElem?_map, List.getElem?_range (show m - 1 < m by omega)]
    rfl
  · intro j hj
    rw [endsT_len] at hj
    rw [List.getD_eq_getElem?_getD]
    simp only [endsT, List.getElem?_map, List.getElem?_range hj]
    exact one_endI _ _ _ (by omega) (by omega)
theorem endsL_ok (k : Nat) : ∀ f ∈ endsL k, InsOk f := by
  intro f hf
  obtain ⟨i, _, rfl⟩ := List.mem_map.1 hf
  exact okE _
theorem long_false (n : Nat) (h : n = 16385) : rightP (endsL n) = false := by
  unfold rightP; rw [decide_eq_false (by rw [endsL_len]; omega)]; rfl
theorem list9 {rest : List Value} {m : Nat} (h : rest.length = m) (h9 : 9 ≤ m) : ∃ r0 r1 r2 r3 r4 r5 r6 r7 r8 r, rest = r0 :: r1 :: r2 :: r3 :: r4 :: r5 :: r6 :: r7 :: r8 :: r := by
  match rest, h with
  | r0 :: r1 :: r2 :: r3 :: r4 :: r5 :: r6 :: r7 :: r8 :: r, _ => exact ⟨r0, r1, r2, r3, r4, r5, r6, r7, r8, r, rfl⟩
  | [], h | [_], h | [_, _], h | [_, _, _], h | [_, _, _, _], h | [_, _, _, _, _], h | [_, _, _, _, _, _], h | [_, _, _, _, _, _, _], h | [_, _, _, _, _, _, _, _], h => simp at h; omega
theorem set_at (pre post : List Value) (n j : Nat) (hn : pre.length = n) (u : Value) : (pre ++ post).set (n + j) u = pre ++ post.set j u := by
  rw [List.set_append_right _ _ (by omega), hn, show n + j - n = j by omega]
theorem Bk.nine {w : World} {g : Nat} {t : TypeId} {pre r : List Value} {n : Nat} {r0 r1 r2 r3 r4 r5 r6 r7 r8 : Value} (h : Bk w g t (pre ++ (r0 :: r1 :: r2 :: r3 :: r4 :: r5 :: r6 :: r7 :: r8 :: r))) (hn : pre.length = n) (v0 v1 v2 v3 v4 v5 v6 v7 v8 : Value) :
    Bk (((((((((w.setCell ⟨g, n, none⟩ v0).setCell ⟨g, n + 1, none⟩ v1).setCell ⟨g, n + 2, none⟩ v2).setCell ⟨g, n + 3, none⟩ v3).setCell ⟨g, n + 4, none⟩ v4).setCell ⟨g, n + 5, none⟩ v5).setCell ⟨g, n + 6, none⟩ v6).setCell ⟨g, n + 7, none⟩ v7).setCell ⟨g, n + 8, none⟩ v8) g t
      (pre ++ (v0 :: v1 :: v2 :: v3 :: v4 :: v5 :: v6 :: v7 :: v8 :: r)) := by
  have h0 := ((((((((h.set (n + 0) v0).set (n + 1) v1).set (n + 2) v2).set (n + 3) v3).set (n + 4) v4).set (n + 5) v5).set (n + 6) v6).set (n + 7) v7).set (n + 8) v8
  simp only [set_at _ _ _ _ hn, List.set_cons_zero, List.set_cons_succ] at h0
  exact h0
theorem Bk.nine_at {w : World} {g : Nat} {t : TypeId} {pre r : List Value} {n : Nat} {r0 r1 r2 r3 r4 r5 r6 r7 r8 : Value} (h : Bk w g t (pre ++ (r0 :: r1 :: r2 :: r3 :: r4 :: r5 :: r6 :: r7 :: r8 :: r))) (hn : pre.length = n) :
    w.cell? ⟨g, n, none⟩ = some r0 ∧ w.cell? ⟨g, n + 1, none⟩ = some r1 ∧ w.cell? ⟨g, n + 2, none⟩ = some r2 ∧ w.cell? ⟨g, n + 3, none⟩ = some r3 ∧ w.cell? ⟨g, n + 4, none⟩ = some r4 ∧ w.cell? ⟨g, n + 5, none⟩ = some r5 ∧ w.cell? ⟨g, n + 6, none⟩ = some r6 ∧ w.cell? ⟨g, n + 7, none⟩ = some r7 ∧ w.cell? ⟨g, n + 8, none⟩ = some r8 := by
  subst hn
  refine ⟨?_, ?_, ?_, ?_, ?_, ?_, ?_, ?_, ?_⟩ <;> (rw [h.cell]; rw [List.getElem?_append_right (by omega)]; simp)
theorem inss_off {w : World} {g c : Nat} {x : Ins} {xs : List Ins} {ext : List Value} (h : Bk w g 35 (flatV (x :: xs) ++ ext)) (hc : xs.length ≤ c) (hm : c ≤ maxLen) : Inss w (fun b => b < w.heap.size) (some ⟨g, 9, none⟩) c xs := by
  refine ⟨(fun e => by cases e), hc, hm, fun _ => ⟨_, rfl, h.lt, fun i y hy j hj => ?_⟩⟩
  have e : ((⟨g, 9, none⟩ : Addr).add (i * 9)).add j = ⟨g, (i + 1) * 9 + j, none⟩ := by
    rw [add_add']
    unfold Addr.add
    split
    · have : i * 9 + j = 0 := by assumption
      have h1 : i = 0 := by omega
      have h2 : j = 0 := by omega
      subst h1; subst h2; rfl
    · simp; omega
  rw [e, h.cell, List.getElem?_append_left (by rw [flatV_len]; have := (List.getElem?_eq_some_iff.1 hy).1; simp; omega)]
  exact flatV_at (x :: xs) (i + 1) y (by simpa using hy) j hj
theorem irTells_n {g cap n : Nat} {ys : List Ins} {w : World} (h : Cd w g cap ys) (hn : ys.length = n) (hok : ∀ f ∈ ys, InsOk f) (ht : Tb w.heap.size w) : Calls Tryd.prog 3 #[.slice (some ⟨g, 0, none⟩) n cap] w fun e w' => e = .returned (.bool true) ∧ Below w.heap.size w w' := by
  subst hn; exact IrTells_any _ cap ys w h.inss hok ht
set_option maxHeartbeats 20000000 in
theorem IrNumbers_any (w : World) (ht : Tb w.heap.size w) : Calls Tryd.prog 4 #[] w fun e w' => e = .returned (.bool true) ∧ Below w.heap.size w w' := by
  have HT := Lib.hid ht
  clear ht
  go_enter Tryd.func4, Tryd.ntmps4
  go_wp2_with fail
  have hN : Bk (w.alloc (.cells numsV.toArray 3)) w.heap.size 3 numsV := Bk.new w _ _
  have HB0 : Hid (Below w.heap.size w (w.alloc (.cells numsV.toArray 3))) := Lib.hid ((Below.refl _ _).alloc (Nat.le_refl _) _)
  have HZ0 : Hid ((w.alloc (.cells numsV.toArray 3)).heap.size = w.heap.size + 1) := Lib.hid (by simp)
  obtain ⟨w0, e0⟩ : ∃ w0, w.alloc (.cells numsV.toArray 3) = w0 := ⟨_, rfl⟩
  rw [e0] at hN HB0 HZ0
  have HN := Lib.hid hN
  clear hN
  simp only [numsV, numsL, List.map_cons, List.map_nil] at e0
  rw [e0]
  clear e0
  have HT0 := Lib.hid ((HT.out.keep HB0.out).mono HB0.out.size)
  have HW : Hid (w.heap.size ≤ w0.heap.size) := Lib.hid HB0.out.size
  go_loopw [2] (fun i' wr => ∃ i : Nat, i ≤ 31 ∧ i' = .int .i64 i ∧ Hid (Below w0.heap.size w0 wr)) (fun i _ => 31 - (intOf i).toNat)
  case atStart => exact ⟨0, by decide, rfl, Lib.hid (Below.refl _ _)⟩
  case round =>
    obtain ⟨i, hi, rfl, hA⟩ := hrel
    by_cases hlt : i < 31
    · have d1 : decide ((i : Int) < 31) = true := decide_eq_true (by omega)
      obtain ⟨wo, ho⟩ : ∃ wo : World, wo = wr := ⟨_, rfl⟩
      subst ho
      go_wp2_with fail
      go_loopw [3] (fun n' wr => ∃ n : Nat, n ≤ 23 ∧ n' = .int .i64 n ∧ Hid (Below w0.heap.size w0 wr)) (fun n _ => 23 - (intOf n).toNat)
      case atStart => exact ⟨0, by decide, rfl, hA⟩
      case round =>
        obtain ⟨n, hn, rfl, hA2⟩ := hrel
        by_cases hlt2 : n < 23
        · have d2 : decide ((n : Int) < 23) = true := decide_eq_true (by omega)
          obtain ⟨wp, hp⟩ : ∃ wp : World, wp = wr := ⟨_, rfl⟩
          subst hp
          go_wp2_with fail
          go_loopw [4] (fun k' wr => ∃ k : Nat, k ≤ 10 ∧ k' = .int .i64 k ∧ Hid (Below w0.heap.size w0 wr)) (fun k _ => 10 - (intOf k).toNat)
          case atStart => exact ⟨0, by decide, rfl, hA2⟩
          case round =>
            clear hA hA2
            obtain ⟨k, hk, rfl, hB⟩ := hrel
            by_cases hlt3 : k < 10
            · have d3 : decide ((k : Int) < 10) = true := decide_eq_true (by omega)
              go_wp2_with fail
              refine (full_any wr).mono ?_
              rintro _ w2 ⟨v, rfl, hown, hb2⟩
              obtain ⟨g, cap, rfl, hg, hC2⟩ := cd_own hown fullL_len (by decide)
              have HC2 := Lib.hid hC2
              have HB2 := Lib.hid (hB.out.trans (hb2.mono hB.out.size))
              have hgw : Hid (w0.heap.size ≤ g) := Lib.hid (Nat.le_trans hB.out.size hg)
              obtain ⟨z, hz1, hz2, hz3, hz4⟩ := numsV_at n hlt2
              have hzc : w2.cell? ⟨w.heap.size, n, none⟩ = some (.int .i64 z) := by
                rw [HB2.out.cell (p := ⟨w.heap.size, n, none⟩) HN.out.lt]
                exact (HN.out.cell n).trans hz2
              obtain ⟨F, hF⟩ : ∃ F, Hid (fullL[i]? = some F) := ⟨_, Lib.hid (List.getElem?_eq_getElem (by rw [fullL_len]; exact hlt))⟩
              have FO := Lib.hid (fullL_ok F (List.mem_of_getElem? hF.out))
              obtain ⟨hc, hfz⟩ := hC2.cell hF.out
              have c0 := hc 0 (by decide)
              have c1 := hc 1 (by decide)
              have c2 := hc 2 (by decide)
              have c3 := hc 3 (by decide)
              have c4 := hc 4 (by decide)
              have c5 := hc 5 (by decide)
              have c6 := hc 6 (by decide)
              have c7 := hc 7 (by decide)
              have c8 := hc 8 (by decide)
              simp only [insV, List.getElem?_cons_zero, List.getElem?_cons_succ, Nat.add_zero] at c0 c1 c2 c3 c4 c5 c6 c7 c8
              clear hc hown hb2 hz1 hz2 hC2 hg
              have i1 : (0 : Int) ≤ (i : Int) := by omega
              have i2 : (i : Int) < 31 := by omega
              have n1 : (0 : Int) ≤ (n : Int) := by omega
              have n2 : (n : Int) < 23 := by omega
              have k1 : (0 : Int) ≤ (k : Int) := by omega
              obtain hk0 | hk0 | hk0 | hk0 | hk0 | hk0 | hk0 | hk0 | hk0 | hk0 : k = 0 ∨ k = 1 ∨ k = 2 ∨ k = 3 ∨ k = 4 ∨ k = 5 ∨ k = 6 ∨ k = 7 ∨ k = 8 ∨ k = 9 := by omega
              · have q0 : ((k : Int) == 0) = true := by rw [beq_iff_eq]; omega
                have HK0 := Lib.hid hk0
                clear hk0
                have HC3 : Hid (Cd (w2.setCell ⟨g, i * 9, none⟩ (.int .u8 (z % 256))) g cap (fullL.set i { F with op := z % 256 })) := Lib.hid (HC2.out.set { F with op := z % 256 } 0 _ hF.out (by decide) rfl)
                have HOK : Hid (∀ f ∈ (fullL.set i { F with op := z % 256 }), InsOk f) := Lib.hid (set_ok fullL_ok i ⟨FO.out.w0, FO.out.n0, FO.out.n1⟩)
                have HB3 : Hid (Below w0.heap.size w0 (w2.setCell ⟨g, i * 9, none⟩ (.int .u8 (z % 256)))) := Lib.hid (HB2.out.setCell (p := ⟨g, i * 9, none⟩) hgw.out _)
                obtain ⟨w3, e3⟩ : ∃ w3, (w2.setCell ⟨g, i * 9, none⟩ (.int .u8 (z % 256))) = w3 := ⟨_, rfl⟩
                rw [e3] at HC3 HB3
                have HL : Hid ((fullL.set i { F with op := z % 256 }).length = 31) := Lib.hid (by rw [List.length_set]; exact fullL_len)
                generalize (fullL.set i { F with op := z % 256 }) = ys at HC3 HOK HL
                go_wp2_with fail
                clear e3
                ((with_reducible refine (right_n HC3.out HL.out).mono ?_))
                rintro _ wa ⟨rfl, hba⟩
                have HCa := Lib.hid (HC3.out.below hba)
                have HBa := Lib.hid (HB3.out.trans (hba.mono HB3.out.size))
                clear hba
                go_wp2_with fail
                ((with_reducible refine (rright_n HCa.out HL.out).mono ?_))
                rintro _ wb ⟨rfl, hbb⟩
                have HCb := Lib.hid (HCa.out.below hbb)
                have HBb := Lib.hid (HBa.out.trans (hbb.mono HBa.out.size))
                have HTb := Lib.hid ((HT0.out.keep HBb.out).mono HBb.out.size)
                clear hbb
                generalize rightP ys = rr
                go_wp2_with fail
                ((with_reducible refine (text_n HCb.out HL.out HOK.out HTb.out).mono ?_))
                rintro _ wc ⟨rfl, hbc⟩
                have HCc := Lib.hid (HCb.out.below hbc)
                have HBc := Lib.hid (HBb.out.trans (hbc.mono HBb.out.size))
                have HTc := Lib.hid ((HT0.out.keep HBc.out).mono HBc.out.size)
                clear hbc
                go_wp2_with fail
                ((with_reducible refine (rtext_n HCc.out HL.out HOK.out HTc.out).mono ?_))
                rintro _ wd ⟨rfl, hbd⟩
                have HBd := Lib.hid (HBc.out.trans (hbd.mono HBc.out.size))
                clear hbd
                generalize textP ys = tt
                go_wp2_with fail
                go_roundw
                case rel => exact ⟨k + 1, by omega, by go_num, HBd⟩
                case measure => simp [intOf]; omega
              · have q0 : ((k : Int) == 0) = false := by rw [beq_eq_false_iff_ne]; omega
                have q1 : ((k : Int) == 1) = true := by rw [beq_iff_eq]; omega
                have HK0 := Lib.hid hk0
                clear hk0
                have HC3 : Hid (Cd (w2.setCell ⟨g, i * 9 + 1, none⟩ (.int .u8 (z % 256))) g cap (fullL.set i { F with what := z % 256 })) := Lib.hid (HC2.out.set { F with what := z % 256 } 1 _ hF.out (by decide) rfl)
                have HOK : Hid (∀ f ∈ (fullL.set i { F with what := z % 256 }), InsOk f) := Lib.hid (set_ok fullL_ok i ⟨by simp only []; omega, FO.out.n0, FO.out.n1⟩)
                have HB3 : Hid (Below w0.heap.size w0 (w2.setCell ⟨g, i * 9 + 1, none⟩ (.int .u8 (z % 256)))) := Lib.hid (HB2.out.setCell (p := ⟨g, i * 9 + 1, none⟩) hgw.out _)
                obtain ⟨w3, e3⟩ : ∃ w3, (w2.setCell ⟨g, i * 9 + 1, none⟩ (.int .u8 (z % 256))) = w3 := ⟨_, rfl⟩
                rw [e3] at HC3 HB3
                have HL : Hid ((fullL.set i { F with what := z % 256 }).length = 31) := Lib.hid (by rw [List.length_set]; exact fullL_len)
                generalize (fullL.set i { F with what := z % 256 }) = ys at HC3 HOK HL
                go_wp2_with fail
                clear e3
                ((with_reducible refine (right_n HC3.out HL.out).mono ?_))
                rintro _ wa ⟨rfl, hba⟩
                have HCa := Lib.hid (HC3.out.below hba)
                have HBa := Lib.hid (HB3.out.trans (hba.mono HB3.out.size))
                clear hba
                go_wp2_with fail
                ((with_reducible refine (rright_n HCa.out HL.out).mono ?_))
                rintro _ wb ⟨rfl, hbb⟩
                have HCb := Lib.hid (HCa.out.below hbb)
                have HBb := Lib.hid (HBa.out.trans (hbb.mono HBa.out.size))
                have HTb := Lib.hid ((HT0.out.keep HBb.out).mono HBb.out.size)
                clear hbb
                generalize rightP ys = rr
                go_wp2_with fail
                ((with_reducible refine (text_n HCb.out HL.out HOK.out HTb.out).mono ?_))
                rintro _ wc ⟨rfl, hbc⟩
                have HCc := Lib.hid (HCb.out.below hbc)
                have HBc := Lib.hid (HBb.out.trans (hbc.mono HBb.out.size))
                have HTc := Lib.hid ((HT0.out.keep HBc.out).mono HBc.out.size)
                clear hbc
                go_wp2_with fail
                ((with_reducible refine (rtext_n HCc.out HL.out HOK.out HTc.out).mono ?_))
                rintro _ wd ⟨rfl, hbd⟩
                have HBd := Lib.hid (HBc.out.trans (hbd.mono HBc.out.size))
                clear hbd
                generalize textP ys = tt
                go_wp2_with fail
                go_roundw
                case rel => exact ⟨k + 1, by omega, by go_num, HBd⟩
                case measure => simp [intOf]; omega
              · have q0 : ((k : Int) == 0) = false := by rw [beq_eq_false_iff_ne]; omega
                have q1 : ((k : Int) == 1) = false := by rw [beq_eq_false_iff_ne]; omega
                have q2 : ((k : Int) == 2) = true := by rw [beq_iff_eq]; omega
                have HK0 := Lib.hid hk0
                clear hk0
                have HC3 : Hid (Cd (w2.setCell ⟨g, i * 9 + 2, none⟩ (.bool (!F.nar))) g cap (fullL.set i { F with nar := !F.nar })) := Lib.hid (HC2.out.set { F with nar := !F.nar } 2 _ hF.out (by decide) rfl)
                have HOK : Hid (∀ f ∈ (fullL.set i { F with nar := !F.nar }), InsOk f) := Lib.hid (set_ok fullL_ok i ⟨FO.out.w0, FO.out.n0, FO.out.n1⟩)
                have HB3 : Hid (Below w0.heap.size w0 (w2.setCell ⟨g, i * 9 + 2, none⟩ (.bool (!F.nar)))) := Lib.hid (HB2.out.setCell (p := ⟨g, i * 9 + 2, none⟩) hgw.out _)
                obtain ⟨w3, e3⟩ : ∃ w3, (w2.setCell ⟨g, i * 9 + 2, none⟩ (.bool (!F.nar))) = w3 := ⟨_, rfl⟩
                rw [e3] at HC3 HB3
                have HL : Hid ((fullL.set i { F with nar := !F.nar }).length = 31) := Lib.hid (by rw [List.length_set]; exact fullL_len)
                generalize (fullL.set i { F with nar := !F.nar }) = ys at HC3 HOK HL
                go_wp2_with fail
                clear e3
                ((with_reducible refine (right_n HC3.out HL.out).mono ?_))
                rintro _ wa ⟨rfl, hba⟩
                have HCa := Lib.hid (HC3.out.below hba)
                have HBa := Lib.hid (HB3.out.trans (hba.mono HB3.out.size))
                clear hba
                go_wp2_with fail
                ((with_reducible refine (rright_n HCa.out HL.out).mono ?_))
                rintro _ wb ⟨rfl, hbb⟩
                have HCb := Lib.hid (HCa.out.below hbb)
                have HBb := Lib.hid (HBa.out.trans (hbb.mono HBa.out.size))
                have HTb := Lib.hid ((HT0.out.keep HBb.out).mono HBb.out.size)
                clear hbb
                generalize rightP ys = rr
                go_wp2_with fail
                ((with_reducible refine (text_n HCb.out HL.out HOK.out HTb.out).mono ?_))
                rintro _ wc ⟨rfl, hbc⟩
                have HCc := Lib.hid (HCb.out.below hbc)
                have HBc := Lib.hid (HBb.out.trans (hbc.mono HBb.out.size))
                have HTc := Lib.hid ((HT0.out.keep HBc.out).mono HBc.out.size)
                clear hbc
                go_wp2_with fail
                ((with_reducible refine (rtext_n HCc.out HL.out HOK.out HTc.out).mono ?_))
                rintro _ wd ⟨rfl, hbd⟩
                have HBd := Lib.hid (HBc.out.trans (hbd.mono HBc.out.size))
                clear hbd
                generalize textP ys = tt
                go_wp2_with fail
                go_roundw
                case rel => exact ⟨k + 1, by omega, by go_num, HBd⟩
                case measure => simp [intOf]; omega
              · have q0 : ((k : Int) == 0) = false := by rw [beq_eq_false_iff_ne]; omega
                have q1 : ((k : Int) == 1) = false := by rw [beq_eq_false_iff_ne]; omega
                have q2 : ((k : Int) == 2) = false := by rw [beq_eq_false_iff_ne]; omega
                have q3 : ((k : Int) == 3) = true := by rw [beq_iff_eq]; omega
                have HK0 := Lib.hid hk0
                clear hk0
                have HC3 : Hid (Cd (w2.setCell ⟨g, i * 9 + 3, none⟩ (.int .i64 (z))) g cap (fullL.set i { F with d := z })) := Lib.hid (HC2.out.set { F with d := z } 3 _ hF.out (by decide) rfl)
                have HOK : Hid (∀ f ∈ (fullL.set i { F with d := z }), InsOk f) := Lib.hid (set_ok fullL_ok i ⟨FO.out.w0, FO.out.n0, FO.out.n1⟩)
                have HB3 : Hid (Below w0.heap.size w0 (w2.setCell ⟨g, i * 9 + 3, none⟩ (.int .i64 (z)))) := Lib.hid (HB2.out.setCell (p := ⟨g, i * 9 + 3, none⟩) hgw.out _)
                obtain ⟨w3, e3⟩ : ∃ w3, (w2.setCell ⟨g, i * 9 + 3, none⟩ (.int .i64 (z))) = w3 := ⟨_, rfl⟩
                rw [e3] at HC3 HB3
                have HL : Hid ((fullL.set i { F with d := z }).length = 31) := Lib.hid (by rw [List.length_set]; exact fullL_len)
                generalize (fullL.set i { F with d := z }) = ys at HC3 HOK HL
                go_wp2_with fail
                clear e3
                ((with_reducible refine (right_n HC3.out HL.out).mono ?_))
                rintro _ wa ⟨rfl, hba⟩
                have HCa := Lib.hid (HC3.out.below hba)
                have HBa := Lib.hid (HB3.out.trans (hba.mono HB3.out.size))
                clear hba
                go_wp2_with fail
                ((with_reducible refine (rright_n HCa.out HL.out).mono ?_))
                rintro _ wb ⟨rfl, hbb⟩
                have HCb := Lib.hid (HCa.out.below hbb)
                have HBb := Lib.hid (HBa.out.trans (hbb.mono HBa.out.size))
                have HTb := Lib.hid ((HT0.out.keep HBb.out).mono HBb.out.size)
                clear hbb
                generalize rightP ys = rr
                go_wp2_with fail
                ((with_reducible refine (text_n HCb.out HL.out HOK.out HTb.out).mono ?_))
                rintro _ wc ⟨rfl, hbc⟩
                have HCc := Lib.hid (HCb.out.below hbc)
                have HBc := Lib.hid (HBb.out.trans (hbc.mono HBb.out.size))
                have HTc := Lib.hid ((HT0.out.keep HBc.out).mono HBc.out.size)
                clear hbc
                go_wp2_with fail
                ((with_reducible refine (rtext_n HCc.out HL.out HOK.out HTc.out).mono ?_))
                rintro _ wd ⟨rfl, hbd⟩
                have HBd := Lib.hid (HBc.out.trans (hbd.mono HBc.out.size))
                clear hbd
                generalize textP ys = tt
                go_wp2_with fail
                go_roundw
                case rel => exact ⟨k + 1, by omega, by go_num, HBd⟩
                case measure => simp [intOf]; omega
              · have q0 : ((k : Int) == 0) = false := by rw [beq_eq_false_iff_ne]; omega
                have q1 : ((k : Int) == 1) = false := by rw [beq_eq_false_iff_ne]; omega
                have q2 : ((k : Int) == 2) = false := by rw [beq_eq_false_iff_ne]; omega
                have q3 : ((k : Int) == 3) = false := by rw [beq_eq_false_iff_ne]; omega
                have q4 : ((k : Int) == 4) = true := by rw [beq_iff_eq]; omega
                have HK0 := Lib.hid hk0
                clear hk0
                have HC3 : Hid (Cd (w2.setCell ⟨g, i * 9 + 4, none⟩ (.int .i64 (z))) g cap (fullL.set i { F with a := z })) := Lib.hid (HC2.out.set { F with a := z } 4 _ hF.out (by decide) rfl)
                have HOK : Hid (∀ f ∈ (fullL.set i { F with a := z }), InsOk f) := Lib.hid (set_ok fullL_ok i ⟨FO.out.w0, FO.out.n0, FO.out.n1⟩)
                have HB3 : Hid (Below w0.heap.size w0 (w2.setCell ⟨g, i * 9 + 4, none⟩ (.int .i64 (z)))) := Lib.hid (HB2.out.setCell (p := ⟨g, i * 9 + 4, none⟩) hgw.out _)
                obtain ⟨w3, e3⟩ : ∃ w3, (w2.setCell ⟨g, i * 9 + 4, none⟩ (.int .i64 (z))) = w3 := ⟨_, rfl⟩
                rw [e3] at HC3 HB3
                have HL : Hid ((fullL.set i { F with a := z }).length = 31) := Lib.hid (by rw [List.length_set]; exact fullL_len)
                generalize (fullL.set i { F with a := z }) = ys at HC3 HOK HL
                go_wp2_with fail
                clear e3
                ((with_reducible refine (right_n HC3.out HL.out).mono ?_))
                rintro _ wa ⟨rfl, hba⟩
                have HCa := Lib.hid (HC3.out.below hba)
                have HBa := Lib.hid (HB3.out.trans (hba.mono HB3.out.size))
                clear hba
                go_wp2_with fail
                ((with_reducible refine (rright_n HCa.out HL.out).mono ?_))
                rintro _ wb ⟨rfl, hbb⟩
                have HCb := Lib.hid (HCa.out.below hbb)
                have HBb := Lib.hid (HBa.out.trans (hbb.mono HBa.out.size))
                have HTb := Lib.hid ((HT0.out.keep HBb.out).mono HBb.out.size)
                clear hbb
                generalize rightP ys = rr
                go_wp2_with fail
                ((with_reducible refine (text_n HCb.out HL.out HOK.out HTb.out).mono ?_))
                rintro _ wc ⟨rfl, hbc⟩
                have HCc := Lib.hid (HCb.out.below hbc)
                have HBc := Lib.hid (HBb.out.trans (hbc.mono HBb.out.size))
                have HTc := Lib.hid ((HT0.out.keep HBc.out).mono HBc.out.size)
                clear hbc
                go_wp2_with fail
                ((with_reducible refine (rtext_n HCc.out HL.out HOK.out HTc.out).mono ?_))
                rintro _ wd ⟨rfl, hbd⟩
                have HBd := Lib.hid (HBc.out.trans (hbd.mono HBc.out.size))
                clear hbd
                generalize textP ys = tt
                go_wp2_with fail
                go_roundw
                case rel => exact ⟨k + 1, by omega, by go_num, HBd⟩
                case measure => simp [intOf]; omega
              · have q0 : ((k : Int) == 0) = false := by rw [beq_eq_false_iff_ne]; omega
                have q1 : ((k : Int) == 1) = false := by rw [beq_eq_false_iff_ne]; omega
                have q2 : ((k : Int) == 2) = false := by rw [beq_eq_false_iff_ne]; omega
                have q3 : ((k : Int) == 3) = false := by rw [beq_eq_false_iff_ne]; omega
                have q4 : ((k : Int) == 4) = false := by rw [beq_eq_false_iff_ne]; omega
                have q5 : ((k : Int) == 5) = true := by rw [beq_iff_eq]; omega
                have HK0 := Lib.hid hk0
                clear hk0
                have HC3 : Hid (Cd (w2.setCell ⟨g, i * 9 + 5, none⟩ (.int .i64 (z))) g cap (fullL.set i { F with b := z })) := Lib.hid (HC2.out.set { F with b := z } 5 _ hF.out (by decide) rfl)
                have HOK : Hid (∀ f ∈ (fullL.set i { F with b := z }), InsOk f) := Lib.hid (set_ok fullL_ok i ⟨FO.out.w0, FO.out.n0, FO.out.n1⟩)
                have HB3 : Hid (Below w0.heap.size w0 (w2.setCell ⟨g, i * 9 + 5, none⟩ (.int .i64 (z)))) := Lib.hid (HB2.out.setCell (p := ⟨g, i * 9 + 5, none⟩) hgw.out _)
                obtain ⟨w3, e3⟩ : ∃ w3, (w2.setCell ⟨g, i * 9 + 5, none⟩ (.int .i64 (z))) = w3 := ⟨_, rfl⟩
                rw [e3] at HC3 HB3
                have HL : Hid ((fullL.set i { F with b := z }).length = 31) := Lib.hid (by rw [List.length_set]; exact fullL_len)
                generalize (fullL.set i { F with b := z }) = ys at HC3 HOK HL
                go_wp2_with fail
                clear e3
                ((with_reducible refine (right_n HC3.out HL.out).mono ?_))
                rintro _ wa ⟨rfl, hba⟩
                have HCa := Lib.hid (HC3.out.below hba)
                have HBa := Lib.hid (HB3.out.trans (hba.mono HB3.out.size))
                clear hba
                go_wp2_with fail
                ((with_reducible refine (rright_n HCa.out HL.out).mono ?_))
                rintro _ wb ⟨rfl, hbb⟩
                have HCb := Lib.hid (HCa.out.below hbb)
                have HBb := Lib.hid (HBa.out.trans (hbb.mono HBa.out.size))
                have HTb := Lib.hid ((HT0.out.keep HBb.out).mono HBb.out.size)
                clear hbb
                generalize rightP ys = rr
                go_wp2_with fail
                ((with_reducible refine (text_n HCb.out HL.out HOK.out HTb.out).mono ?_))
                rintro _ wc ⟨rfl, hbc⟩
                have HCc := Lib.hid (HCb.out.below hbc)
                have HBc := Lib.hid (HBb.out.trans (hbc.mono HBb.out.size))
                have HTc := Lib.hid ((HT0.out.keep HBc.out).mono HBc.out.size)
                clear hbc
                go_wp2_with fail
                ((with_reducible refine (rtext_n HCc.out HL.out HOK.out HTc.out).mono ?_))
                rintro _ wd ⟨rfl, hbd⟩
                have HBd := Lib.hid (HBc.out.trans (hbd.mono HBc.out.size))
                clear hbd
                generalize textP ys = tt
                go_wp2_with fail
                go_roundw
                case rel => exact ⟨k + 1, by omega, by go_num, HBd⟩
                case measure => simp [intOf]; omega
              · have q0 : ((k : Int) == 0) = false := by rw [beq_eq_false_iff_ne]; omega
                have q1 : ((k : Int) == 1) = false := by rw [beq_eq_false_iff_ne]; omega
                have q2 : ((k : Int) == 2) = false := by rw [beq_eq_false_iff_ne]; omega
                have q3 : ((k : Int) == 3) = false := by rw [beq_eq_false_iff_ne]; omega
                have q4 : ((k : Int) == 4) = false := by rw [beq_eq_false_iff_ne]; omega
                have q5 : ((k : Int) == 5) = false := by rw [beq_eq_false_iff_ne]; omega
                have q6 : ((k : Int) == 6) = true := by rw [beq_iff_eq]; omega
                have HK0 := Lib.hid hk0
                clear hk0
                have HC3 : Hid (Cd (w2.setCell ⟨g, i * 9 + 6, none⟩ (.int .u64 (IntKind.u64.wrap z))) g cap (fullL.set i { F with n := IntKind.u64.wrap z })) := Lib.hid (HC2.out.set { F with n := IntKind.u64.wrap z } 6 _ hF.out (by decide) rfl)
                have HOK : Hid (∀ f ∈ (fullL.set i { F with n := IntKind.u64.wrap z }), InsOk f) := Lib.hid (set_ok fullL_ok i ⟨FO.out.w0, by simp only [IntKind.wrap_u64]; omega, by simp only [IntKind.wrap_u64]; omega⟩)
                have HB3 : Hid (Below w0.heap.size w0 (w2.setCell ⟨g, i * 9 + 6, none⟩ (.int .u64 (IntKind.u64.wrap z)))) := Lib.hid (HB2.out.setCell (p := ⟨g, i * 9 + 6, none⟩) hgw.out _)
                obtain ⟨w3, e3⟩ : ∃ w3, (w2.setCell ⟨g, i * 9 + 6, none⟩ (.int .u64 (IntKind.u64.wrap z))) = w3 := ⟨_, rfl⟩
                rw [e3] at HC3 HB3
                have HL : Hid ((fullL.set i { F with n := IntKind.u64.wrap z }).length = 31) := Lib.hid (by rw [List.length_set]; exact fullL_len)
                generalize (fullL.set i { F with n := IntKind.u64.wrap z }) = ys at HC3 HOK HL
                go_wp2_with fail
                clear e3
                ((with_reducible refine (right_n HC3.out HL.out).mono ?_))
                rintro _ wa ⟨rfl, hba⟩
                have HCa := Lib.hid (HC3.out.below hba)
                have HBa := Lib.hid (HB3.out.trans (hba.mono HB3.out.size))
                clear hba
                go_wp2_with fail
                ((with_reducible refine (rright_n HCa.out HL.out).mono ?_))
                rintro _ wb ⟨rfl, hbb⟩
                have HCb := Lib.hid (HCa.out.below hbb)
                have HBb := Lib.hid (HBa.out.trans (hbb.mono HBa.out.size))
                have HTb := Lib.hid ((HT0.out.keep HBb.out).mono HBb.out.size)
                clear hbb
                generalize rightP ys = rr
                go_wp2_with fail
                ((with_reducible refine (text_n HCb.out HL.out HOK.out HTb.out).mono ?_))
                rintro _ wc ⟨rfl, hbc⟩
                have HCc := Lib.hid (HCb.out.below hbc)
                have HBc := Lib.hid (HBb.out.trans (hbc.mono HBb.out.size))
                have HTc := Lib.hid ((HT0.out.keep HBc.out).mono HBc.out.size)
                clear hbc
                go_wp2_with fail
                ((with_reducible refine (rtext_n HCc.out HL.out HOK.out HTc.out).mono ?_))
                rintro _ wd ⟨rfl, hbd⟩
                have HBd := Lib.hid (HBc.out.trans (hbd.mono HBc.out.size))
                clear hbd
                generalize textP ys = tt
                go_wp2_with fail
                go_roundw
                case rel => exact ⟨k + 1, by omega, by go_num, HBd⟩
                case measure => simp [intOf]; omega
              · have q0 : ((k : Int) == 0) = false := by rw [beq_eq_false_iff_ne]; omega
                have q1 : ((k : Int) == 1) = false := by rw [beq_eq_false_iff_ne]; omega
                have q2 : ((k : Int) == 2) = false := by rw [beq_eq_false_iff_ne]; omega
                have q3 : ((k : Int) == 3) = false := by rw [beq_eq_false_iff_ne]; omega
                have q4 : ((k : Int) == 4) = false := by rw [beq_eq_false_iff_ne]; omega
                have q5 : ((k : Int) == 5) = false := by rw [beq_eq_false_iff_ne]; omega
                have q6 : ((k : Int) == 6) = false := by rw [beq_eq_false_iff_ne]; omega
                have q7 : ((k : Int) == 7) = true := by rw [beq_iff_eq]; omega
                have HK0 := Lib.hid hk0
                clear hk0
                have HC3 : Hid (Cd (w2.setCell ⟨g, i * 9 + 7, none⟩ (.int .i64 (z))) g cap (fullL.set i { F with size := z })) := Lib.hid (HC2.out.set { F with size := z } 7 _ hF.out (by decide) rfl)
                have HOK : Hid (∀ f ∈ (fullL.set i { F with size := z }), InsOk f) := Lib.hid (set_ok fullL_ok i ⟨FO.out.w0, FO.out.n0, FO.out.n1⟩)
                have HB3 : Hid (Below w0.heap.size w0 (w2.setCell ⟨g, i * 9 + 7, none⟩ (.int .i64 (z)))) := Lib.hid (HB2.out.setCell (p := ⟨g, i * 9 + 7, none⟩) hgw.out _)
                obtain ⟨w3, e3⟩ : ∃ w3, (w2.setCell ⟨g, i * 9 + 7, none⟩ (.int .i64 (z))) = w3 := ⟨_, rfl⟩
                rw [e3] at HC3 HB3
                have HL : Hid ((fullL.set i { F with size := z }).length = 31) := Lib.hid (by rw [List.length_set]; exact fullL_len)
                generalize (fullL.set i { F with size := z }) = ys at HC3 HOK HL
                go_wp2_with fail
                clear e3
                ((with_reducible refine (right_n HC3.out HL.out).mono ?_))
                rintro _ wa ⟨rfl, hba⟩
                have HCa := Lib.hid (HC3.out.below hba)
                have HBa := Lib.hid (HB3.out.trans (hba.mono HB3.out.size))
                clear hba
                go_wp2_with fail
                ((with_reducible refine (rright_n HCa.out HL.out).mono ?_))
                rintro _ wb ⟨rfl, hbb⟩
                have HCb := Lib.hid (HCa.out.below hbb)
                have HBb := Lib.hid (HBa.out.trans (hbb.mono HBa.out.size))
                have HTb := Lib.hid ((HT0.out.keep HBb.out).mono HBb.out.size)
                clear hbb
                generalize rightP ys = rr
                go_wp2_with fail
                ((with_reducible refine (text_n HCb.out HL.out HOK.out HTb.out).mono ?_))
                rintro _ wc ⟨rfl, hbc⟩
                have HCc := Lib.hid (HCb.out.below hbc)
                have HBc := Lib.hid (HBb.out.trans (hbc.mono HBb.out.size))
                have HTc := Lib.hid ((HT0.out.keep HBc.out).mono HBc.out.size)
                clear hbc
                go_wp2_with fail
                ((with_reducible refine (rtext_n HCc.out HL.out HOK.out HTc.out).mono ?_))
                rintro _ wd ⟨rfl, hbd⟩
                have HBd := Lib.hid (HBc.out.trans (hbd.mono HBc.out.size))
                clear hbd
                generalize textP ys = tt
                go_wp2_with fail
                go_roundw
                case rel => exact ⟨k + 1, by omega, by go_num, HBd⟩
                case measure => simp [intOf]; omega
              · have q0 : ((k : Int) == 0) = false := by rw [beq_eq_false_iff_ne]; omega
                have q1 : ((k : Int) == 1) = false := by rw [beq_eq_false_iff_ne]; omega
                have q2 : ((k : Int) == 2) = false := by rw [beq_eq_false_iff_ne]; omega
                have q3 : ((k : Int) == 3) = false := by rw [beq_eq_false_iff_ne]; omega
                have q4 : ((k : Int) == 4) = false := by rw [beq_eq_false_iff_ne]; omega
                have q5 : ((k : Int) == 5) = false := by rw [beq_eq_false_iff_ne]; omega
                have q6 : ((k : Int) == 6) = false := by rw [beq_eq_false_iff_ne]; omega
                have q7 : ((k : Int) == 7) = false := by rw [beq_eq_false_iff_ne]; omega
                have q8 : ((k : Int) == 8) = true := by rw [beq_iff_eq]; omega
                have HK0 := Lib.hid hk0
                clear hk0
                have HC3 : Hid (Cd (w2.setCell ⟨g, i * 9 + 8, none⟩ (.int .i64 (z))) g cap (fullL.set i { F with «to» := z })) := Lib.hid (HC2.out.set { F with «to» := z } 8 _ hF.out (by decide) rfl)
                have HOK : Hid (∀ f ∈ (fullL.set i { F with «to» := z }), InsOk f) := Lib.hid (set_ok fullL_ok i ⟨FO.out.w0, FO.out.n0, FO.out.n1⟩)
                have HB3 : Hid (Below w0.heap.size w0 (w2.setCell ⟨g, i * 9 + 8, none⟩ (.int .i64 (z)))) := Lib.hid (HB2.out.setCell (p := ⟨g, i * 9 + 8, none⟩) hgw.out _)
                obtain ⟨w3, e3⟩ : ∃ w3, (w2.setCell ⟨g, i * 9 + 8, none⟩ (.int .i64 (z))) = w3 := ⟨_, rfl⟩
                rw [e3] at HC3 HB3
                have HL : Hid ((fullL.set i { F with «to» := z }).length = 31) := Lib.hid (by rw [List.length_set]; exact fullL_len)
                generalize (fullL.set i { F with «to» := z }) = ys at HC3 HOK HL
                go_wp2_with fail
                clear e3
                ((with_reducible refine (right_n HC3.out HL.out).mono ?_))
                rintro _ wa ⟨rfl, hba⟩
                have HCa := Lib.hid (HC3.out.below hba)
                have HBa := Lib.hid (HB3.out.trans (hba.mono HB3.out.size))
                clear hba
                go_wp2_with fail
                ((with_reducible refine (rright_n HCa.out HL.out).mono ?_))
                rintro _ wb ⟨rfl, hbb⟩
                have HCb := Lib.hid (HCa.out.below hbb)
                have HBb := Lib.hid (HBa.out.trans (hbb.mono HBa.out.size))
                have HTb := Lib.hid ((HT0.out.keep HBb.out).mono HBb.out.size)
                clear hbb
                generalize rightP ys = rr
                go_wp2_with fail
                ((with_reducible refine (text_n HCb.out HL.out HOK.out HTb.out).mono ?_))
                rintro _ wc ⟨rfl, hbc⟩
                have HCc := Lib.hid (HCb.out.below hbc)
                have HBc := Lib.hid (HBb.out.trans (hbc.mono HBb.out.size))
                have HTc := Lib.hid ((HT0.out.keep HBc.out).mono HBc.out.size)
                clear hbc
                go_wp2_with fail
                ((with_reducible refine (rtext_n HCc.out HL.out HOK.out HTc.out).mono ?_))
                rintro _ wd ⟨rfl, hbd⟩
                have HBd := Lib.hid (HBc.out.trans (hbd.mono HBc.out.size))
                clear hbd
                generalize textP ys = tt
                go_wp2_with fail
                go_roundw
                case rel => exact ⟨k + 1, by omega, by go_num, HBd⟩
                case measure => simp [intOf]; omega
              · have q0 : ((k : Int) == 0) = false := by rw [beq_eq_false_iff_ne]; omega
                have q1 : ((k : Int) == 1) = false := by rw [beq_eq_false_iff_ne]; omega
                have q2 : ((k : Int) == 2) = false := by rw [beq_eq_false_iff_ne]; omega
                have q3 : ((k : Int) == 3) = false := by rw [beq_eq_false_iff_ne]; omega
                have q4 : ((k : Int) == 4) = false := by rw [beq_eq_false_iff_ne]; omega
                have q5 : ((k : Int) == 5) = false := by rw [beq_eq_false_iff_ne]; omega
                have q6 : ((k : Int) == 6) = false := by rw [beq_eq_false_iff_ne]; omega
                have q7 : ((k : Int) == 7) = false := by rw [beq_eq_false_iff_ne]; omega
                have q8 : ((k : Int) == 8) = false := by rw [beq_eq_false_iff_ne]; omega
                have HK0 := Lib.hid hk0
                clear hk0
                have hcp : (31 : Int) ≤ (cap : Int) := by have := HC2.out.2.1; rw [fullL_len] at this; omega
                go_wp2_with fail
                have HC3 := Lib.hid (HC2.out.take i)
                have HOK : Hid (∀ f ∈ (fullL.take i), InsOk f) := Lib.hid (fun f hf => fullL_ok f (List.mem_of_mem_take hf))
                have HB3 := HB2
                have HL : Hid ((fullL.take i).length = i) := Lib.hid (by rw [List.length_take, fullL_len]; omega)
                generalize fullL.take i = ys at HC3 HOK HL
                ((with_reducible refine (right_n HC3.out HL.out).mono ?_))
                rintro _ wa ⟨rfl, hba⟩
                have HCa := Lib.hid (HC3.out.below hba)
                have HBa := Lib.hid (HB3.out.trans (hba.mono HB3.out.size))
                clear hba
                go_wp2_with fail
                ((with_reducible refine (rright_n HCa.out HL.out).mono ?_))
                rintro _ wb ⟨rfl, hbb⟩
                have HCb := Lib.hid (HCa.out.below hbb)
                have HBb := Lib.hid (HBa.out.trans (hbb.mono HBa.out.size))
                have HTb := Lib.hid ((HT0.out.keep HBb.out).mono HBb.out.size)
                clear hbb
                generalize rightP ys = rr
                go_wp2_with fail
                ((with_reducible refine (text_n HCb.out HL.out HOK.out HTb.out).mono ?_))
                rintro _ wc ⟨rfl, hbc⟩
                have HCc := Lib.hid (HCb.out.below hbc)
                have HBc := Lib.hid (HBb.out.trans (hbc.mono HBb.out.size))
                have HTc := Lib.hid ((HT0.out.keep HBc.out).mono HBc.out.size)
                clear hbc
                go_wp2_with fail
                ((with_reducible refine (rtext_n HCc.out HL.out HOK.out HTc.out).mono ?_))
                rintro _ wd ⟨rfl, hbd⟩
                have HBd := Lib.hid (HBc.out.trans (hbd.mono HBc.out.size))
                clear hbd
                generalize textP ys = tt
                go_wp2_with fail
                go_roundw
                case rel => exact ⟨k + 1, by omega, by go_num, HBd⟩
                case measure => simp [intOf]; omega
            · have d3 : decide ((k : Int) < 10) = false := decide_eq_false (by omega)
              go_wp2_with fail
              go_roundw
              case rel => exact ⟨n + 1, by omega, by go_num, hB⟩
              case measure => simp [intOf]; omega
        · have d2 : decide ((n : Int) < 23) = false := decide_eq_false (by omega)
          go_wp2_with fail
          go_roundw
          case rel => exact ⟨i + 1, by omega, by go_num, hA2⟩
          case measure => simp [intOf]; omega
    · have d1 : decide ((i : Int) < 31) = false := decide_eq_false (by omega)
      obtain ⟨wq, hq⟩ : ∃ wq : World, wq = wr := ⟨_, rfl⟩
      subst hq
      have HQ := Lib.hid (HB0.out.trans (hA.out.mono HB0.out.size))
      obtain ⟨i0, hi0, hz0, hz1, hz2⟩ := info_parts flat_info
      clear hA
      go_wp2_with (at_make; refine wpList_make_full _ rfl _ _ 22 rfl wq.heap.size 35 i0 (insA (markI 0)) 9 Tryd.underlying22 hi0 hz0 hz1 _ _ _ _ 16385 rfl rfl rfl rfl (by rw [hz2]; decide) (by decide) (Nat.le_refl _) ?_; intro wz hownz hgz)
      have hbk : Bk wz wq.heap.size 35 _ := own_all9 hownz (Nat.le_refl _)
      have hln := hownz.1
      have HBZ : Hid (Below wq.heap.size wq wz) := Lib.hid ((Below.refl wq.heap.size wq).grown hgz (Nat.le_refl _) (by simp))
      obtain ⟨Z, HK, HZL⟩ : ∃ Z : List Value, Hid (Bk wz wq.heap.size 35 Z) ∧ Hid (Z.length = 16385 * 9) := ⟨_, Lib.hid hbk, Lib.hid hln⟩
      have he := fun a W => end_any a W
      simp only [insA, insV, endI] at he
      have HE := Lib.hid he
      clear hownz hgz hbk hln he hi0 hz0 hz1 hz2
      go_loopw [8] (fun k' wr => ∃ k : Nat, k ≤ 16385 ∧ k' = .int .i64 k ∧ Hid (Below wq.heap.size wq wr) ∧ ∃ rest : List Value, Hid (rest.length = (16385 - k) * 9) ∧ Hid (Bk wr wq.heap.size 35 (flatV (endsL k) ++ rest))) (fun k _ => 16385 - (intOf k).toNat)
      case atStart => exact ⟨0, Nat.zero_le _, rfl, HBZ, Z, Lib.hid (by have h := HZL.out; omega), HK⟩
      case round =>
        clear HK HBZ HZL
        obtain ⟨k, hk, rfl, hB, rest, hrl, hbk⟩ := hrel
        by_cases hlt3 : k < 16385
        · have d3 : decide ((k : Int) < 16385) = true := decide_eq_true (by omega)
          obtain ⟨r0, r1, r2, r3, r4, r5, r6, r7, r8, r, rfl⟩ := list9 hrl.out (by omega)
          have hle : (flatV (endsL k)).length = k * 9 := by rw [flatV_len, endsL_len]
          have HLE := Lib.hid hle
          have hlr : r.length = (16385 - (k + 1)) * 9 := by have := hrl.out; simp at this; omega
          have HLR := Lib.hid hlr
          have hm0 : (0 : Int) ≤ (k : Int) := by omega
          clear hlr hle
          go_wp2_with fail
          refine (HE.out ((k : Int) % 16) _).mono ?_
          rintro _ w2 ⟨rfl, hb2⟩
          have HK2 := Lib.hid (hbk.out.below hb2 hbk.out.lt)
          have HB2 := Lib.hid (hB.out.trans (hb2.mono hB.out.size))
          obtain ⟨c0, c1, c2, c3, c4, c5, c6, c7, c8⟩ := HK2.out.nine_at HLE.out
          have hf : ∀ o, w2.frozen? ⟨wq.heap.size, o, none⟩ = false := fun o => HK2.out.frozen o
          have HK3 := Lib.hid (HK2.out.nine HLE.out (.int .u8 9) (.int .u8 0) (.bool false) (.int .i64 0) (.int .i64 ((k : Int) % 16)) (.int .i64 0) (.int .u64 0) (.int .i64 0) (.int .i64 0))
          clear hb2
          go_wp2_with fail
          go_roundw
          case rel => exact ⟨k + 1, by omega, by go_num, Lib.hid (((((((((HB2.out.setCell (p := ⟨wq.heap.size, k * 9, none⟩) (Nat.le_refl _) _).setCell (p := ⟨wq.heap.size, k * 9 + 1, none⟩) (Nat.le_refl _) _).setCell (p := ⟨wq.heap.size, k * 9 + 2, none⟩) (Nat.le_refl _) _).setCell (p := ⟨wq.heap.size, k * 9 + 3, none⟩) (Nat.le_refl _) _).setCell (p := ⟨wq.heap.size, k * 9 + 4, none⟩) (Nat.le_refl _) _).setCell (p := ⟨wq.heap.size, k * 9 + 5, none⟩) (Nat.le_refl _) _).setCell (p := ⟨wq.heap.size, k * 9 + 6, none⟩) (Nat.le_refl _) _).setCell (p := ⟨wq.heap.size, k * 9 + 7, none⟩) (Nat.le_refl _) _).setCell (p := ⟨wq.heap.size, k * 9 + 8, none⟩) (Nat.le_refl _) _), r, HLR, Lib.hid (by rw [endsL_succ, flatV_app, flatV_single, List.append_assoc]; exact HK3.out)⟩
          case measure => simp [intOf]; omega
        · have d3 : decide ((k : Int) < 16385) = false := decide_eq_false (by omega)
          have HKN := Lib.hid (show k = 16385 by omega)
          have hm1 : (1 : Int) ≤ 16385 := by decide
          have HLL := Lib.hid (show (endsL k).length = 16385 by rw [endsL_len]; exact HKN.out)
          have hcd : Cd wr wq.heap.size 16385 (endsL k) := ⟨⟨rest, hbk.out⟩, by rw [HLL.out]; exact Nat.le_refl _, by unfold maxLen; omega⟩
          have HCD := Lib.hid hcd
          obtain ⟨m, hm⟩ : ∃ m, Hid (k = m + 1) := ⟨k - 1, Lib.hid (by have := HKN.out; omega)⟩
          have hm2 := Lib.hid (show m = 16384 by have := HKN.out; have := hm.out; omega)
          have HTL := Lib.hid (show (endsT m).length = 16384 by rw [endsT_len]; exact hm2.out)
          have HR1 : Hid (Calls Tryd.prog 8 #[.slice (some ⟨wq.heap.size, 9, none⟩) (16384 : Nat) 16384] wr fun e w' => e = .returned (.bool true) ∧ Below wr.heap.size wr w') := Lib.hid (by
            have h := right_any (some ⟨wq.heap.size, 9, none⟩) 16384 (endsT m) wr (inss_off (x := endI 0) (ext := rest) (by have h := hbk.out; rw [hm.out, endsL_cons] at h; exact h) (by rw [HTL.out]; exact Nat.le_refl _) (by unfold maxLen; omega))
            rw [endsT_right m (by have := hm2.out; omega) (by have := hm2.out; omega), HTL.out] at h
            exact h)
          have HF1 := Lib.hid (long_false k HKN.out)
          have HTX := Lib.hid (show textP (endsL k) = [] by rw [textP, if_neg (by rw [HF1.out]; decide)])
          have HBq := Lib.hid (HQ.out.trans (hB.out.mono HQ.out.size))
          clear hrl hbk hB hcd
          go_wp2_with fail
          ((with_reducible refine HR1.out.mono ?_))
          rintro _ wa ⟨rfl, hba⟩
          have HCa := Lib.hid (HCD.out.below hba)
          have HBa := Lib.hid (HBq.out.trans (hba.mono HBq.out.size))
          clear hba
          go_wp2_with fail
          ((with_reducible refine (right_n HCa.out HLL.out).mono ?_))
          rintro _ wb ⟨rfl, hbb⟩
          rw [HF1.out]
          have HCb := Lib.hid (HCa.out.below hbb)
          have HBb := Lib.hid (HBa.out.trans (hbb.mono HBa.out.size))
          have HTb := Lib.hid ((HT.out.keep HBb.out).mono HBb.out.size)
          clear hbb
          go_wp2_with fail
          ((with_reducible refine (text_n HCb.out HLL.out (endsL_ok k) HTb.out).mono ?_))
          rintro _ wc ⟨rfl, hbc⟩
          rw [HTX.out]
          have HBc := Lib.hid (HBb.out.trans (hbc.mono HBb.out.size))
          clear hbc
          go_wp2_with fail
          refine (full_any wc).mono ?_
          rintro _ wd ⟨v, rfl, hown, hbd⟩
          obtain ⟨g, cap, rfl, hg, hC2⟩ := cd_own hown fullL_len (by decide)
          have HC2 := Lib.hid hC2
          have HBd := Lib.hid (HBc.out.trans (hbd.mono HBc.out.size))
          have HTd := Lib.hid ((HT.out.keep HBd.out).mono HBd.out.size)
          clear hown hC2 hbd hg
          go_wp2_with fail
          ((with_reducible refine (irTells_n HC2.out fullL_len fullL_ok HTd.out).mono ?_))
          rintro _ we ⟨rfl, hbe⟩
          have HBe := Lib.hid (HBd.out.trans (hbe.mono HBd.out.size))
          have HTe := Lib.hid ((HT.out.keep HBe.out).mono HBe.out.size)
          clear hbe
          go_wp2_with fail
          refine (awake_any we HTe.out).mono ?_
          rintro _ wf ⟨rfl, hbf⟩
          have HBf := Lib.hid (HBe.out.trans (hbf.mono HBe.out.size))
          clear hbf
          go_wp2_with fail
          go_ret
          exact ⟨rfl, HBf.out⟩
end Go.Proofs.YtdhfdlelnkoomaaDoor
