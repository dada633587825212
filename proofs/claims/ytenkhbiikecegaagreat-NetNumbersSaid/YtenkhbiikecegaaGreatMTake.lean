/- net: the document's Take, Drop, Double. -/
import Derived.Test.YtenkhbiikecegaaGreatMSend
import Derived.Test.YtenkhbiikecegaaGreatRz
namespace Go.Proofs.YtenkhbiikecegaaGreat
open Go.RowKit Go.Maps Go.ChangeMaps
set_option linter.unusedVariables false
set_option linter.unusedSimpArgs false
set_option maxRecDepth 100000

/-- Other packets of those that were, in new memory. -/
theorem RN.reset {B : Nat → Prop} {R n g g7 cap7 m : Nat} {P P' : List RP} {v : Value} {w w7 : World} {S' : Sg} (h : RN B R P n v g w) (hP : ∀ p ∈ P', p ∈ P) (hl : P'.length ≤ P.length) (hS : ∀ a b, rS P' a b = S' a b)
    (hb7 : Below w.heap.size w w7) (hr7 : Row w7 60 3 (.slice (some ⟨g7, 0, none⟩) m cap7) g7 P'.length (rpV P')) (hg7 : w.heap.size ≤ g7) (hlt7 : g7 < w7.heap.size) :
    RDid B R S' n w (w7.setCell ⟨R, 0, none⟩ (.slice (some ⟨g7, 0, none⟩) m cap7)) ∧ ∀ p ∈ P, ∃ K, Dat (w7.setCell ⟨R, 0, none⟩ (.slice (some ⟨g7, 0, none⟩) m cap7)) K p.v.A p.v.c p.v.l := by
  have hRl := h.lt R h.hR
  have hgR : g7 ≠ R := by omega
  have far : ∀ k, k ≠ R → (w7.setCell ⟨R, 0, none⟩ (.slice (some ⟨g7, 0, none⟩) m cap7)).heap[k]? = w7.heap[k]? := fun k hk => Below.heap_setCell w7 _ _ k hk
  have hsz : (w7.setCell ⟨R, 0, none⟩ (.slice (some ⟨g7, 0, none⟩) m cap7)).heap.size = w7.heap.size := by simp [World.setCell]
  have hR7 : Bk w7 R 51 [v] := (hb7.block R hRl).trans h.bk
  have hs := hb7.size
  refine ⟨?_, fun p hp => ⟨_, (h.dat p hp).2.2.2.narrow.keep (fun k q hk => (far k (h.gb q.2).2).trans (hb7.block k hk)) (by rw [hsz]; exact hs) (fun k q hk => q)⟩⟩
  refine ⟨fun j => (B j ∨ w.heap.size ≤ j) ∧ j < w7.heap.size, fun j q => q.1, ⟨P', _, g7, ⟨hR7.set 0 _, hr7.keep (fun _ => far g7 hgR), fun _ => ⟨.inr hg7, hlt7⟩, ⟨.inl h.hR, hR7.lt⟩, fun j q => by rw [hsz]; exact q.2, fun p hp => ?_, Nat.le_trans hl h.few, h.nn⟩, hS⟩, ⟨hb7.os, hb7.tape, hb7.output, by rw [hsz]; exact hs, fun k h1 h2 => (far k (fun e => h2 (e ▸ h.hR))).trans (hb7.block k h1)⟩⟩
  obtain ⟨p1, p2, p3, p4⟩ := h.dat p (hP p hp)
  exact ⟨p1, p2, p3, p4.narrow.keep (fun k q hk => (far k (h.gb q.2).2).trans (hb7.block k hk)) (by rw [hsz]; exact hs) (fun k q hk => ⟨.inl q.1, by omega⟩)⟩
/-- What place tells, of the packets of the link. -/
theorem Plc.in_ {P : List RP} {S : Sg} {a b k : Int} (hS : ∀ a b, rS P a b = S a b) {i : Nat} {p : RP} (hp : P[i]? = some p) (h1 : p.a = a) (h2 : p.b = b) (h3 : (rc (P.take i) a b : Int) = k) : (0 ≤ k ∧ k < (S a b).length) ∧ (S a b).getD k.toNat [] = p.v.l ∧ rc (P.take i) a b = k.toNat := by
  have hlt := rc_lt hp a b ⟨h1, h2⟩
  have hat := rS_at hp
  rw [h1, h2, hS] at hat
  have e : rc (P.take i) a b = k.toNat := by omega
  refine ⟨⟨by omega, ?_⟩, ?_, e⟩
  · rw [← hS, rS_len]; omega
  · rw [← e, List.getD_eq_getElem?_getD, hat]; rfl
set_option maxHeartbeats 4000000 in
theorem rop_take {B : Nat → Prop} {R n : Nat} {S : Sg} (a b k : Int) (hk : I64 k) (w : World) (h : RB B R S n w) :
    Calls Tryz.prog 20 #[.pointer (some ⟨R, 0, none⟩), .int .i64 a, .int .i64 b, .int .i64 k] w fun e w' => ∃ A c, e = .returned (.tuple #[.slice A (tkV S a b k).length c, .int .i64 (tkE S a b k)]) ∧ RDid B R (tkS S a b k) n w w' ∧ ∃ K, Dat w' K A c (tkV S a b k) := by
  obtain ⟨P, v, g, hN, hsg, hrc⟩ := h.at_
  have hpl := place_any a b k hk hN
  rw [show Plc P a b k = Plc P a b k from rfl] at hpl
  by_cases hin : 0 ≤ k ∧ k < (S a b).length
  · have hE : tkE S a b k = 0 := by rw [tkE, if_pos hin]
    have hSS : tkS S a b k = upd S a b ((S a b).eraseIdx k.toNat) := by rw [tkS, if_pos hin]
    have hV : tkV S a b k = (S a b).getD k.toNat [] := by rw [tkV, if_pos hin]
    rw [hE, hSS, hV]
    obtain ⟨i0, hi, hz, hz1, hz2⟩ := info_parts infoPk
    have hnn := hN.few
    have hn1 := hN.nn
    go_enter Tryz.func20, Tryz.ntmps20
    go_wp2_with fail
    (with_reducible refine hpl.mono ?_)
    rintro _ w_ ⟨⟨x, rfl, hx⟩, rfl⟩
    clear hpl
    obtain ⟨i, p, hp, h1, h2, h3, rfl⟩ : ∃ i p, P[i]? = some p ∧ p.a = a ∧ p.b = b ∧ (rc (P.take i) a b : Int) = k ∧ x = (i : Int) := by
      rcases hx with hx | ⟨_, hno⟩
      · exact hx
      · exact absurd ⟨hin.1, by rw [hrc]; exact hin.2⟩ hno
    clear hx
    have hil := (List.getElem?_eq_some_iff.1 hp).1
    obtain ⟨p', c, hp', hpm, rfl, hown, _, _, c2⟩ := hN.at_ hil
    have hpp : p' = p := by rw [hp] at hp'; injection hp' with e; exact e.symm
    subst hpp
    obtain ⟨_, hV2, hri⟩ := Plc.in_ hsg hp h1 h2 h3
    have d1 : decide ((i : Int) < 0) = false := decide_eq_false (by omega)
    have d2 : decide ((i : Int) < (P.length : Int)) = true := decide_eq_true (by omega)
    have cR := hN.cellR
    obtain ⟨pa, pb, pv⟩ := p'
    obtain ⟨pA, pc, pl⟩ := pv
    simp only [PV.val] at c2
    dsimp only at h1 h2 hV2
    have HV := Lib.hid hV2
    clear hV2
    obtain ⟨_, _, _, hdp⟩ := hN.dat _ hpm
    dsimp only at hdp
    have hlc : P.length ≤ c ∧ c ≤ maxLen := by
      obtain ⟨A', c', e, q1, q2, _⟩ := hN.form
      injection e with _ _ e
      omega
    go_wp2_with fail
    have hadd : ∀ j q, (⟨g, j, none⟩ : Addr).add q = ⟨g, j + q, none⟩ := fun j q => by unfold Addr.add; split <;> simp_all
    have hw3 : IntKind.i64.wrap ((i : Int) + 1) = ((i + 1 : Nat) : Int) := IntWalk.i64_in _ (by omega)
    have hrow : ∀ w', Below w_.heap.size w_ w' → Row w' 60 3 (.slice (some ⟨g, 0, none⟩) P.length c) g P.length (rpV P) := fun w' hw' => (hN.keep (fun j q => hw'.block j (hN.lt j q)) hw'.size).row
    have hX : ∀ w', Below w_.heap.size w_ w' → w'.cell? ⟨R, 0, none⟩ = some (.slice (some ⟨g, 0, none⟩) P.length c) := fun w' hw' => (hN.keep (fun j q => hw'.block j (hN.lt j q)) hw'.size).cellR
    obtain ⟨ad, had, hnew⟩ : ∃ ad, (if c = i + 1 then some (⟨g, 0, none⟩ : Addr) else some ⟨g, (i + 1) * 3, none⟩) = some ad ∧ ∀ w', Below w_.heap.size w_ w' → ∀ q u, ((rpV P).drop ((i + 1) * 3))[q]? = some u → w'.cell? (ad.add q) = some u := by
      by_cases hck : c = i + 1
      · refine ⟨_, if_pos hck, fun w' _ q u hu => ?_⟩
        have hd : (rpV P).drop ((i + 1) * 3) = [] := List.drop_eq_nil_of_le (by rw [rpV_len]; omega)
        rw [hd] at hu
        cases hu
      · refine ⟨_, if_neg hck, fun w' hw' q u hu => ?_⟩
        rw [List.getElem?_drop] at hu
        rw [hadd]
        exact (hrow w' hw').cell0 hown hu
    have hold : ∀ w', Below w_.heap.size w_ w' → ∀ q u, ((rpV P).take (i * 3))[q]? = some u → w'.cell? ((⟨g, 0, none⟩ : Addr).add q) = some u := by
      intro w' hw' q u hu
      rw [List.getElem?_take] at hu
      split at hu
      · exact (hrow w' hw').cells (by rw [hown]; simp) q u hu
      · cases hu
    have hb5 : Below w_.heap.size w_ (w_.alloc (.cells #[] 60)).drew := ((Below.refl _ _).alloc (Nat.le_refl _) _).drew
    have hr5 : Row (w_.alloc (.cells #[] 60)).drew 60 3 (.slice (some ⟨w_.heap.size, 0, none⟩) 0 0) w_.heap.size 0 [] := ⟨rfl, .inr ⟨0, #[], rfl, heap_alloc_new w_ _, Nat.le_refl _, by decide, rfl, fun h => absurd h (Nat.lt_irrefl 0)⟩⟩
    have hs5 : w_.heap.size < (w_.alloc (.cells #[] 60)).drew.heap.size := by show _ < (w_.alloc _).heap.size; simp
    have hPl := rpV_len P
    have hSE : ∀ x y, rS (P.eraseIdx i) x y = upd S a b ((S a b).eraseIdx k.toNat) x y := by
      intro x y
      rw [rS_erase hp]
      unfold Go.Proofs.YtenkhbiikecegaaGreat.upd
      show (if pa = x ∧ pb = y then _ else _) = _
      rw [h1, h2]
      by_cases e : a = x ∧ b = y
      · obtain ⟨rfl, rfl⟩ := e
        rw [if_pos ⟨rfl, rfl⟩, if_pos ⟨rfl, rfl⟩, hri, hsg]
      · rw [if_neg e, if_neg e, hsg]
    have hone := rpV_one P
    refine wp_region_held_drew (S := fun w' => True) (by kernel_rfl) trivial (fun hS => ?_)
    refine wpAnyH_take (i := 0) (v := ?_) rfl (by kernel_rfl) (by kernel_rfl) (by kernel_rfl) (fun _ _ _ h => h) (Or.inl ⟨by rfl, ?_⟩) hS ?_
    rotate_left 1
    · intro w' hSw
      go_simp <;> with_reducible rfl
    try simp only [List.getElem_toArray, List.getElem_cons_zero, List.getElem_cons_succ, Act.put, List.setIfInBounds_toArray, List.set_cons_zero, List.set_cons_succ]
    refine wpAnyH_take (i := 2) (v := ?_) rfl (by kernel_rfl) (by kernel_rfl) (by kernel_rfl) (fun _ _ _ h => h) (Or.inl ⟨by rfl, ?_⟩) hS ?_
    rotate_left 1
    · intro w' hSw
      go_simp <;> with_reducible rfl
    try simp only [List.getElem_toArray, List.getElem_cons_zero, List.getElem_cons_succ, Act.put, List.setIfInBounds_toArray, List.set_cons_zero, List.set_cons_succ]
    refine wpAnyH_take (i := 3) (v := ?_) rfl (by kernel_rfl) (by kernel_rfl) (by kernel_rfl) (fun _ _ _ h => h) (Or.inl ⟨by rfl, ?_⟩) hS ?_
    rotate_left 1
    · intro w' hSw
      go_simp <;> with_reducible rfl
    try simp only [List.getElem_toArray, List.getElem_cons_zero, List.getElem_cons_succ, Act.put, List.setIfInBounds_toArray, List.set_cons_zero, List.set_cons_succ]
    refine wpAnyH_take (i := 4) (v := ?_) rfl (by kernel_rfl) (by kernel_rfl) (by kernel_rfl) (fun _ _ _ h => h) (Or.inl ⟨by rfl, ?_⟩) hS ?_
    rotate_left 1
    · intro w' hSw
      go_simp <;> with_reducible rfl
    try simp only [List.getElem_toArray, List.getElem_cons_zero, List.getElem_cons_succ, Act.put, List.setIfInBounds_toArray, List.set_cons_zero, List.set_cons_succ]
    refine wpAnyH_take (i := 6) (v := ?_) rfl (by kernel_rfl) (by kernel_rfl) (by kernel_rfl) (fun _ _ _ h => h) (Or.inl ⟨by rfl, ?_⟩) hS ?_
    rotate_left 1
    · intro w' hSw
      go_simp <;> with_reducible rfl
    try simp only [List.getElem_toArray, List.getElem_cons_zero, List.getElem_cons_succ, Act.put, List.setIfInBounds_toArray, List.set_cons_zero, List.set_cons_succ]
    refine wpAnyH_take (i := 9) (v := ?_) rfl (by kernel_rfl) (by kernel_rfl) (by kernel_rfl) (fun _ _ _ h => h) (Or.inl ⟨by rfl, ?_⟩) hS ?_
    rotate_left 1
    · intro w' hSw
      go_simp <;> with_reducible rfl
    try simp only [List.getElem_toArray, List.getElem_cons_zero, List.getElem_cons_succ, Act.put, List.setIfInBounds_toArray, List.set_cons_zero, List.set_cons_succ]
    refine wpAnyH_take (i := 10) (v := ?_) rfl (by kernel_rfl) (by kernel_rfl) (by kernel_rfl) (fun _ _ _ h => h) (Or.inl ⟨by rfl, ?_⟩) hS ?_
    rotate_left 1
    · intro w' hSw
      go_simp <;> with_reducible rfl
    try simp only [List.getElem_toArray, List.getElem_cons_zero, List.getElem_cons_succ, Act.put, List.setIfInBounds_toArray, List.set_cons_zero, List.set_cons_succ]
    refine wpAnyH_take (i := 11) (v := ?_) rfl (by kernel_rfl) (by kernel_rfl) (by kernel_rfl) (fun _ _ _ h => h) (Or.inl ⟨by rfl, ?_⟩) hS ?_
    rotate_left 1
    · intro w' hSw
      go_simp <;> with_reducible rfl
    try simp only [List.getElem_toArray, List.getElem_cons_zero, List.getElem_cons_succ, Act.put, List.setIfInBounds_toArray, List.set_cons_zero, List.set_cons_succ]
    refine wpAnyH_take (i := 13) (v := ?_) rfl (by kernel_rfl) (by kernel_rfl) (by kernel_rfl) (fun _ _ _ h => h) (Or.inl ⟨by rfl, ?_⟩) hS ?_
    rotate_left 1
    · intro w' hSw
      go_simp <;> with_reducible rfl
    try simp only [List.getElem_toArray, List.getElem_cons_zero, List.getElem_cons_succ, Act.put, List.setIfInBounds_toArray, List.set_cons_zero, List.set_cons_succ]
    refine wpAnyH_take (i := 14) (v := ?_) rfl (by kernel_rfl) (by kernel_rfl) (by kernel_rfl) (fun _ _ _ h => h) (Or.inl ⟨by rfl, ?_⟩) hS ?_
    rotate_left 1
    · intro w' hSw
      go_simp <;> with_reducible rfl
    try simp only [List.getElem_toArray, List.getElem_cons_zero, List.getElem_cons_succ, Act.put, List.setIfInBounds_toArray, List.set_cons_zero, List.set_cons_succ]
    refine wpAnyH_ready (rs := [1, 5, 12]) (by kernel_rfl) (by simp) (AllReadyH.cons rfl (fun K hK => ?_) (AllReadyH.cons rfl (fun K hK => ?_) (AllReadyH.cons rfl (fun K hK => ?_) AllReadyH.nil)))
    · go_simp
      refine hK _ _ trivial (fun hS => ?_)
      clear hK K
      generalize ((w_.alloc (.cells #[] 60)).drew) = w5 at *
      have cR5 := hX _ hb5
      try simp only [List.getElem_toArray, List.getElem_cons_zero, List.getElem_cons_succ, Act.put, List.setIfInBounds_toArray, List.set_cons_zero, List.set_cons_succ]
      refine wpAnyH_ready (rs := [5, 12]) (by kernel_rfl) (by simp) (AllReadyH.cons rfl (fun K hK => ?_) (AllReadyH.cons rfl (fun K hK => ?_) AllReadyH.nil))
      · go_simp
        refine hK _ _ trivial (fun hS => ?_)
        clear hK K
        try simp only [List.getElem_toArray, List.getElem_cons_zero, List.getElem_cons_succ, Act.put, List.setIfInBounds_toArray, List.set_cons_zero, List.set_cons_succ]
        refine wpAnyH_take (i := 7) (v := ?_) rfl (by kernel_rfl) (by kernel_rfl) (by kernel_rfl) (fun _ _ _ h => h) (Or.inl ⟨by rfl, ?_⟩) hS ?_
        rotate_left 1
        · intro w' hSw
          go_simp
          rw [if_pos (show i ≤ c by omega)]
        try simp only [List.getElem_toArray, List.getElem_cons_zero, List.getElem_cons_succ, Act.put, List.setIfInBounds_toArray, List.set_cons_zero, List.set_cons_succ]
        refine wpAnyH_ready (rs := [8, 12]) (by kernel_rfl) (by simp) (AllReadyH.cons rfl (fun K hK => ?_) (AllReadyH.cons rfl (fun K hK => ?_) AllReadyH.nil))
        · refine step_append_rowZ _ (by rfl) (.tmp 28) (.tmp 34) 49 (by rfl) 60 i0 _ 3 40 Tryz.underlying49 hi hz hz1 hz2 rfl (.slice (some ⟨w_.heap.size, 0, none⟩) 0 0) w_.heap.size 0 [] (by rfl) hr5 rfl ⟨g, 0, none⟩ i c ((rpV P).take (i * 3)) (by rfl) (by rw [List.length_take, hPl]; omega) (hold _ hb5) (fun u hu => hone u (List.mem_of_mem_take hu)) (by unfold maxLen; omega) (by omega) ?_
          intro v6 w6 g6 hr6 hgr6 hv6 hg6 hlt6
          obtain ⟨cap6, rfl⟩ := hr6.form3 hv6
          rw [show 0 + i = i from Nat.zero_add i] at hr6 hv6 ⊢
          have hb6 : Below w_.heap.size w_ w6 := hb5.grown hgr6 (by omega) (fun k e => by have e : some w_.heap.size = some k := e; injection e with e; omega)
          have hg6' : w_.heap.size ≤ g6 := by rcases hg6 with e | ⟨e, _⟩ <;> omega
          refine hK _ _ trivial (fun hS => ?_)
          clear hK K hgr6 hg6 hr5
          have cR6 := hX _ hb6
          try simp only [List.getElem_toArray, List.getElem_cons_zero, List.getElem_cons_succ, Act.put, List.setIfInBounds_toArray, List.set_cons_zero, List.set_cons_succ]
          refine wpAnyH_ready (rs := [12]) (by kernel_rfl) (by simp) (AllReadyH.cons rfl (fun K hK => ?_) AllReadyH.nil)
          go_simp
          refine hK _ _ trivial (fun hS => ?_)
          clear hK K
          try simp only [List.getElem_toArray, List.getElem_cons_zero, List.getElem_cons_succ, Act.put, List.setIfInBounds_toArray, List.set_cons_zero, List.set_cons_succ]
          refine wpAnyH_take (i := 15) (v := ?_) rfl (by kernel_rfl) (by kernel_rfl) (by kernel_rfl) (fun _ _ _ h => h) (Or.inl ⟨by rfl, ?_⟩) hS ?_
          rotate_left 1
          · intro w' hSw
            go_simp
            rw [if_pos (show (0 : Int) ≤ (i : Int) + 1 ∧ (i : Int) + 1 ≤ (P.length : Int) from ⟨by omega, by omega⟩)]
          try simp only [List.getElem_toArray, List.getElem_cons_zero, List.getElem_cons_succ, Act.put, List.setIfInBounds_toArray, List.set_cons_zero, List.set_cons_succ]
          refine wpAnyH_ready (rs := [16]) (by kernel_rfl) (by simp) (AllReadyH.cons rfl (fun K hK => ?_) AllReadyH.nil)
          refine step_append_rowZ _ (by rfl) (.tmp 35) (.tmp 42) 49 (by rfl) 60 i0 _ 3 40 Tryz.underlying49 hi hz hz1 hz2 rfl _ g6 i ([] ++ (rpV P).take (i * 3)) (by rfl) hr6 hv6 ad (P.length - (i + 1)) (c - (i + 1)) ((rpV P).drop ((i + 1) * 3)) (by rfl) (by rw [List.length_drop, hPl]; omega) (hnew _ hb6) (fun u hu => hone u (List.mem_of_mem_drop hu)) (by unfold maxLen; omega) (by omega) ?_
          intro v7 w7 g7 hr7 hgr7 hv7 hg7 hlt7
          obtain ⟨cap7, rfl⟩ := hr7.form3 hv7
          have hb7 : Below w_.heap.size w_ w7 := hb6.grown hgr7 hb6.size (fun k e => by have e : some g6 = some k := e; injection e with e; omega)
          have hg7' : w_.heap.size ≤ g7 := by rcases hg7 with e | ⟨e, _⟩ <;> (have := hb6.size; omega)
          have hlist : [] ++ (rpV P).take (i * 3) ++ (rpV P).drop ((i + 1) * 3) = rpV (P.eraseIdx i) := by rw [List.nil_append, rpV_erase _ _ hil]
          have hlen7 : i + (P.length - (i + 1)) = (P.eraseIdx i).length := by rw [List.length_eraseIdx_of_lt hil]; omega
          rw [hlist, hlen7] at hr7
          rw [hlen7]
          have hfin := hN.reset (P' := P.eraseIdx i) (S' := upd S a b ((S a b).eraseIdx k.toNat)) (fun p hp => List.mem_of_mem_eraseIdx hp) (by rw [List.length_eraseIdx_of_lt hil]; omega) (hSE) hb7 hr7 hg7' hlt7
          have hR7 := (hN.keep (fun j q => hb7.block j (hN.lt j q)) hb7.size).bk
          have cR7 := hX _ hb7
          have fR7 := hR7.frozen 0
          refine hK _ _ trivial (fun hS => ?_)
          clear hK K hgr7 hg7 hr6 hr7 hlist
          try simp only [List.getElem_toArray, List.getElem_cons_zero, List.getElem_cons_succ, Act.put, List.setIfInBounds_toArray, List.set_cons_zero, List.set_cons_succ]
          refine wpAnyH_ready (rs := [17]) (by kernel_rfl) (by simp) (AllReadyH.cons rfl (fun K hK => ?_) AllReadyH.nil)
          go_simp
          refine hK _ _ trivial (fun hS => ?_)
          clear hK K
          try simp only [List.getElem_toArray, List.getElem_cons_zero, List.getElem_cons_succ, Act.put, List.setIfInBounds_toArray, List.set_cons_zero, List.set_cons_succ]
          refine wpAnyH_ready (rs := [18]) (by kernel_rfl) (by simp) (AllReadyH.cons rfl (fun K hK => ?_) AllReadyH.nil)
          go_simp
          refine hK _ _ trivial (fun hS => ?_)
          clear hK K
          try simp only [List.getElem_toArray, List.getElem_cons_zero, List.getElem_cons_succ, Act.put, List.setIfInBounds_toArray, List.set_cons_zero, List.set_cons_succ]
          refine wpAnyH_ready (rs := [19]) (by kernel_rfl) (by simp) (AllReadyH.cons rfl (fun K hK => ?_) AllReadyH.nil)
          go_simp
          refine hK _ _ trivial (fun hS => ?_)
          clear hK K
          try simp only [List.getElem_toArray, List.getElem_cons_zero, List.getElem_cons_succ, Act.put, List.setIfInBounds_toArray, List.set_cons_zero, List.set_cons_succ]
          refine wpAnyH_done (by kernel_rfl) ?_ _
          go_ways
          go_wp2_with fail
          go_ret2
          rw [HV.out]
          exact ⟨pA, pc, rfl, hfin.1, hfin.2 _ hpm⟩
        · go_simp
          refine hK _ _ trivial (fun hS => ?_)
          clear hK K
          try simp only [List.getElem_toArray, List.getElem_cons_zero, List.getElem_cons_succ, Act.put, List.setIfInBounds_toArray, List.set_cons_zero, List.set_cons_succ]
          refine wpAnyH_take (i := 15) (v := ?_) rfl (by kernel_rfl) (by kernel_rfl) (by kernel_rfl) (fun _ _ _ h => h) (Or.inl ⟨by rfl, ?_⟩) hS ?_
          rotate_left 1
          · intro w' hSw
            go_simp
            rw [if_pos (show (0 : Int) ≤ (i : Int) + 1 ∧ (i : Int) + 1 ≤ (P.length : Int) from ⟨by omega, by omega⟩)]
          try simp only [List.getElem_toArray, List.getElem_cons_zero, List.getElem_cons_succ, Act.put, List.setIfInBounds_toArray, List.set_cons_zero, List.set_cons_succ]
          refine wpAnyH_ready (rs := [8]) (by kernel_rfl) (by simp) (AllReadyH.cons rfl (fun K hK => ?_) AllReadyH.nil)
          refine step_append_rowZ _ (by rfl) (.tmp 28) (.tmp 34) 49 (by rfl) 60 i0 _ 3 40 Tryz.underlying49 hi hz hz1 hz2 rfl (.slice (some ⟨w_.heap.size, 0, none⟩) 0 0) w_.heap.size 0 [] (by rfl) hr5 rfl ⟨g, 0, none⟩ i c ((rpV P).take (i * 3)) (by rfl) (by rw [List.length_take, hPl]; omega) (hold _ hb5) (fun u hu => hone u (List.mem_of_mem_take hu)) (by unfold maxLen; omega) (by omega) ?_
          intro v6 w6 g6 hr6 hgr6 hv6 hg6 hlt6
          obtain ⟨cap6, rfl⟩ := hr6.form3 hv6
          rw [show 0 + i = i from Nat.zero_add i] at hr6 hv6 ⊢
          have hb6 : Below w_.heap.size w_ w6 := hb5.grown hgr6 (by omega) (fun k e => by have e : some w_.heap.size = some k := e; injection e with e; omega)
          have hg6' : w_.heap.size ≤ g6 := by rcases hg6 with e | ⟨e, _⟩ <;> omega
          refine hK _ _ trivial (fun hS => ?_)
          clear hK K hgr6 hg6 hr5
          have cR6 := hX _ hb6
          try simp only [List.getElem_toArray, List.getElem_cons_zero, List.getElem_cons_succ, Act.put, List.setIfInBounds_toArray, List.set_cons_zero, List.set_cons_succ]
          refine wpAnyH_ready (rs := [16]) (by kernel_rfl) (by simp) (AllReadyH.cons rfl (fun K hK => ?_) AllReadyH.nil)
          refine step_append_rowZ _ (by rfl) (.tmp 35) (.tmp 42) 49 (by rfl) 60 i0 _ 3 40 Tryz.underlying49 hi hz hz1 hz2 rfl _ g6 i ([] ++ (rpV P).take (i * 3)) (by rfl) hr6 hv6 ad (P.length - (i + 1)) (c - (i + 1)) ((rpV P).drop ((i + 1) * 3)) (by rfl) (by rw [List.length_drop, hPl]; omega) (hnew _ hb6) (fun u hu => hone u (List.mem_of_mem_drop hu)) (by unfold maxLen; omega) (by omega) ?_
          intro v7 w7 g7 hr7 hgr7 hv7 hg7 hlt7
          obtain ⟨cap7, rfl⟩ := hr7.form3 hv7
          have hb7 : Below w_.heap.size w_ w7 := hb6.grown hgr7 hb6.size (fun k e => by have e : some g6 = some k := e; injection e with e; omega)
          have hg7' : w_.heap.size ≤ g7 := by rcases hg7 with e | ⟨e, _⟩ <;> (have := hb6.size; omega)
          have hlist : [] ++ (rpV P).take (i * 3) ++ (rpV P).drop ((i + 1) * 3) = rpV (P.eraseIdx i) := by rw [List.nil_append, rpV_erase _ _ hil]
          have hlen7 : i + (P.length - (i + 1)) = (P.eraseIdx i).length := by rw [List.length_eraseIdx_of_lt hil]; omega
          rw [hlist, hlen7] at hr7
          rw [hlen7]
          have hfin := hN.reset (P' := P.eraseIdx i) (S' := upd S a b ((S a b).eraseIdx k.toNat)) (fun p hp => List.mem_of_mem_eraseIdx hp) (by rw [List.length_eraseIdx_of_lt hil]; omega) (hSE) hb7 hr7 hg7' hlt7
          have hR7 := (hN.keep (fun j q => hb7.block j (hN.lt j q)) hb7.size).bk
          have cR7 := hX _ hb7
          have fR7 := hR7.frozen 0
          refine hK _ _ trivial (fun hS => ?_)
          clear hK K hgr7 hg7 hr6 hr7 hlist
          try simp only [List.getElem_toArray, List.getElem_cons_zero, List.getElem_cons_succ, Act.put, List.setIfInBounds_toArray, List.set_cons_zero, List.set_cons_succ]
          refine wpAnyH_ready (rs := [17]) (by kernel_rfl) (by simp) (AllReadyH.cons rfl (fun K hK => ?_) AllReadyH.nil)
          go_simp
          refine hK _ _ trivial (fun hS => ?_)
          clear hK K
          try simp only [List.getElem_toArray, List.getElem_cons_zero, List.getElem_cons_succ, Act.put, List.setIfInBounds_toArray, List.set_cons_zero, List.set_cons_succ]
          refine wpAnyH_ready (rs := [18]) (by kernel_rfl) (by simp) (AllReadyH.cons rfl (fun K hK => ?_) AllReadyH.nil)
          go_simp
          refine hK _ _ trivial (fun hS => ?_)
          clear hK K
          try simp only [List.getElem_toArray, List.getElem_cons_zero, List.getElem_cons_succ, Act.put, List.setIfInBounds_toArray, List.set_cons_zero, List.set_cons_succ]
          refine wpAnyH_ready (rs := [19]) (by kernel_rfl) (by simp) (AllReadyH.cons rfl (fun K hK => ?_) AllReadyH.nil)
          go_simp
          refine hK _ _ trivial (fun hS => ?_)
          clear hK K
          try simp only [List.getElem_toArray, List.getElem_cons_zero, List.getElem_cons_succ, Act.put, List.setIfInBounds_toArray, List.set_cons_zero, List.set_cons_succ]
          refine wpAnyH_done (by kernel_rfl) ?_ _
          go_ways
          go_wp2_with fail
          go_ret2
          rw [HV.out]
          exact ⟨pA, pc, rfl, hfin.1, hfin.2 _ hpm⟩
      · go_simp
        refine hK _ _ trivial (fun hS => ?_)
        clear hK K
        try simp only [List.getElem_toArray, List.getElem_cons_zero, List.getElem_cons_succ, Act.put, List.setIfInBounds_toArray, List.set_cons_zero, List.set_cons_succ]
        refine wpAnyH_take (i := 15) (v := ?_) rfl (by kernel_rfl) (by kernel_rfl) (by kernel_rfl) (fun _ _ _ h => h) (Or.inl ⟨by rfl, ?_⟩) hS ?_
        rotate_left 1
        · intro w' hSw
          go_simp
          rw [if_pos (show (0 : Int) ≤ (i : Int) + 1 ∧ (i : Int) + 1 ≤ (P.length : Int) from ⟨by omega, by omega⟩)]
        try simp only [List.getElem_toArray, List.getElem_cons_zero, List.getElem_cons_succ, Act.put, List.setIfInBounds_toArray, List.set_cons_zero, List.set_cons_succ]
        refine wpAnyH_ready (rs := [5]) (by kernel_rfl) (by simp) (AllReadyH.cons rfl (fun K hK => ?_) AllReadyH.nil)
        go_simp
        refine hK _ _ trivial (fun hS => ?_)
        clear hK K
        try simp only [List.getElem_toArray, List.getElem_cons_zero, List.getElem_cons_succ, Act.put, List.setIfInBounds_toArray, List.set_cons_zero, List.set_cons_succ]
        refine wpAnyH_take (i := 7) (v := ?_) rfl (by kernel_rfl) (by kernel_rfl) (by kernel_rfl) (fun _ _ _ h => h) (Or.inl ⟨by rfl, ?_⟩) hS ?_
        rotate_left 1
        · intro w' hSw
          go_simp
          rw [if_pos (show i ≤ c by omega)]
        try simp only [List.getElem_toArray, List.getElem_cons_zero, List.getElem_cons_succ, Act.put, List.setIfInBounds_toArray, List.set_cons_zero, List.set_cons_succ]
        refine wpAnyH_ready (rs := [8]) (by kernel_rfl) (by simp) (AllReadyH.cons rfl (fun K hK => ?_) AllReadyH.nil)
        refine step_append_rowZ _ (by rfl) (.tmp 28) (.tmp 34) 49 (by rfl) 60 i0 _ 3 40 Tryz.underlying49 hi hz hz1 hz2 rfl (.slice (some ⟨w_.heap.size, 0, none⟩) 0 0) w_.heap.size 0 [] (by rfl) hr5 rfl ⟨g, 0, none⟩ i c ((rpV P).take (i * 3)) (by rfl) (by rw [List.length_take, hPl]; omega) (hold _ hb5) (fun u hu => hone u (List.mem_of_mem_take hu)) (by unfold maxLen; omega) (by omega) ?_
        intro v6 w6 g6 hr6 hgr6 hv6 hg6 hlt6
        obtain ⟨cap6, rfl⟩ := hr6.form3 hv6
        rw [show 0 + i = i from Nat.zero_add i] at hr6 hv6 ⊢
        have hb6 : Below w_.heap.size w_ w6 := hb5.grown hgr6 (by omega) (fun k e => by have e : some w_.heap.size = some k := e; injection e with e; omega)
        have hg6' : w_.heap.size ≤ g6 := by rcases hg6 with e | ⟨e, _⟩ <;> omega
        refine hK _ _ trivial (fun hS => ?_)
        clear hK K hgr6 hg6 hr5
        have cR6 := hX _ hb6
        try simp only [List.getElem_toArray, List.getElem_cons_zero, List.getElem_cons_succ, Act.put, List.setIfInBounds_toArray, List.set_cons_zero, List.set_cons_succ]
        refine wpAnyH_ready (rs := [16]) (by kernel_rfl) (by simp) (AllReadyH.cons rfl (fun K hK => ?_) AllReadyH.nil)
        refine step_append_rowZ _ (by rfl) (.tmp 35) (.tmp 42) 49 (by rfl) 60 i0 _ 3 40 Tryz.underlying49 hi hz hz1 hz2 rfl _ g6 i ([] ++ (rpV P).take (i * 3)) (by rfl) hr6 hv6 ad (P.length - (i + 1)) (c - (i + 1)) ((rpV P).drop ((i + 1) * 3)) (by rfl) (by rw [List.length_drop, hPl]; omega) (hnew _ hb6) (fun u hu => hone u (List.mem_of_mem_drop hu)) (by unfold maxLen; omega) (by omega) ?_
        intro v7 w7 g7 hr7 hgr7 hv7 hg7 hlt7
        obtain ⟨cap7, rfl⟩ := hr7.form3 hv7
        have hb7 : Below w_.heap.size w_ w7 := hb6.grown hgr7 hb6.size (fun k e => by have e : some g6 = some k := e; injection e with e; omega)
        have hg7' : w_.heap.size ≤ g7 := by rcases hg7 with e | ⟨e, _⟩ <;> (have := hb6.size; omega)
        have hlist : [] ++ (rpV P).take (i * 3) ++ (rpV P).drop ((i + 1) * 3) = rpV (P.eraseIdx i) := by rw [List.nil_append, rpV_erase _ _ hil]
        have hlen7 : i + (P.length - (i + 1)) = (P.eraseIdx i).length := by rw [List.length_eraseIdx_of_lt hil]; omega
        rw [hlist, hlen7] at hr7
        rw [hlen7]
        have hfin := hN.reset (P' := P.eraseIdx i) (S' := upd S a b ((S a b).eraseIdx k.toNat)) (fun p hp => List.mem_of_mem_eraseIdx hp) (by rw [List.length_eraseIdx_of_lt hil]; omega) (hSE) hb7 hr7 hg7' hlt7
        have hR7 := (hN.keep (fun j q => hb7.block j (hN.lt j q)) hb7.size).bk
        have cR7 := hX _ hb7
        have fR7 := hR7.frozen 0
        refine hK _ _ trivial (fun hS => ?_)
        clear hK K hgr7 hg7 hr6 hr7 hlist
        try simp only [List.getElem_toArray, List.getElem_cons_zero, List.getElem_cons_succ, Act.put, List.setIfInBounds_toArray, List.set_cons_zero, List.set_cons_succ]
        refine wpAnyH_ready (rs := [17]) (by kernel_rfl) (by simp) (AllReadyH.cons rfl (fun K hK => ?_) AllReadyH.nil)
        go_simp
        refine hK _ _ trivial (fun hS => ?_)
        clear hK K
        try simp only [List.getElem_toArray, List.getElem_cons_zero, List.getElem_cons_succ, Act.put, List.setIfInBounds_toArray, List.set_cons_zero, List.set_cons_succ]
        refine wpAnyH_ready (rs := [18]) (by kernel_rfl) (by simp) (AllReadyH.cons rfl (fun K hK => ?_) AllReadyH.nil)
        go_simp
        refine hK _ _ trivial (fun hS => ?_)
        clear hK K
        try simp only [List.getElem_toArray, List.getElem_cons_zero, List.getElem_cons_succ, Act.put, List.setIfInBounds_toArray, List.set_cons_zero, List.set_cons_succ]
        refine wpAnyH_ready (rs := [19]) (by kernel_rfl) (by simp) (AllReadyH.cons rfl (fun K hK => ?_) AllReadyH.nil)
        go_simp
        refine hK _ _ trivial (fun hS => ?_)
        clear hK K
        try simp only [List.getElem_toArray, List.getElem_cons_zero, List.getElem_cons_succ, Act.put, List.setIfInBounds_toArray, List.set_cons_zero, List.set_cons_succ]
        refine wpAnyH_done (by kernel_rfl) ?_ _
        go_ways
        go_wp2_with fail
        go_ret2
        rw [HV.out]
        exact ⟨pA, pc, rfl, hfin.1, hfin.2 _ hpm⟩
    · go_simp
      refine hK _ _ trivial (fun hS => ?_)
      clear hK K
      try simp only [List.getElem_toArray, List.getElem_cons_zero, List.getElem_cons_succ, Act.put, List.setIfInBounds_toArray, List.set_cons_zero, List.set_cons_succ]
      refine wpAnyH_take (i := 7) (v := ?_) rfl (by kernel_rfl) (by kernel_rfl) (by kernel_rfl) (fun _ _ _ h => h) (Or.inl ⟨by rfl, ?_⟩) hS ?_
      rotate_left 1
      · intro w' hSw
        go_simp
        rw [if_pos (show i ≤ c by omega)]
      try simp only [List.getElem_toArray, List.getElem_cons_zero, List.getElem_cons_succ, Act.put, List.setIfInBounds_toArray, List.set_cons_zero, List.set_cons_succ]
      refine wpAnyH_ready (rs := [1, 12]) (by kernel_rfl) (by simp) (AllReadyH.cons rfl (fun K hK => ?_) (AllReadyH.cons rfl (fun K hK => ?_) AllReadyH.nil))
      · go_simp
        refine hK _ _ trivial (fun hS => ?_)
        clear hK K
        generalize ((w_.alloc (.cells #[] 60)).drew) = w5 at *
        have cR5 := hX _ hb5
        try simp only [List.getElem_toArray, List.getElem_cons_zero, List.getElem_cons_succ, Act.put, List.setIfInBounds_toArray, List.set_cons_zero, List.set_cons_succ]
        refine wpAnyH_ready (rs := [8, 12]) (by kernel_rfl) (by simp) (AllReadyH.cons rfl (fun K hK => ?_) (AllReadyH.cons rfl (fun K hK => ?_) AllReadyH.nil))
        · refine step_append_rowZ _ (by rfl) (.tmp 28) (.tmp 34) 49 (by rfl) 60 i0 _ 3 40 Tryz.underlying49 hi hz hz1 hz2 rfl (.slice (some ⟨w_.heap.size, 0, none⟩) 0 0) w_.heap.size 0 [] (by rfl) hr5 rfl ⟨g, 0, none⟩ i c ((rpV P).take (i * 3)) (by rfl) (by rw [List.length_take, hPl]; omega) (hold _ hb5) (fun u hu => hone u (List.mem_of_mem_take hu)) (by unfold maxLen; omega) (by omega) ?_
          intro v6 w6 g6 hr6 hgr6 hv6 hg6 hlt6
          obtain ⟨cap6, rfl⟩ := hr6.form3 hv6
          rw [show 0 + i = i from Nat.zero_add i] at hr6 hv6 ⊢
          have hb6 : Below w_.heap.size w_ w6 := hb5.grown hgr6 (by omega) (fun k e => by have e : some w_.heap.size = some k := e; injection e with e; omega)
          have hg6' : w_.heap.size ≤ g6 := by rcases hg6 with e | ⟨e, _⟩ <;> omega
          refine hK _ _ trivial (fun hS => ?_)
          clear hK K hgr6 hg6 hr5
          have cR6 := hX _ hb6
          try simp only [List.getElem_toArray, List.getElem_cons_zero, List.getElem_cons_succ, Act.put, List.setIfInBounds_toArray, List.set_cons_zero, List.set_cons_succ]
          refine wpAnyH_ready (rs := [12]) (by kernel_rfl) (by simp) (AllReadyH.cons rfl (fun K hK => ?_) AllReadyH.nil)
          go_simp
          refine hK _ _ trivial (fun hS => ?_)
          clear hK K
          try simp only [List.getElem_toArray, List.getElem_cons_zero, List.getElem_cons_succ, Act.put, List.setIfInBounds_toArray, List.set_cons_zero, List.set_cons_succ]
          refine wpAnyH_take (i := 15) (v := ?_) rfl (by kernel_rfl) (by kernel_rfl) (by kernel_rfl) (fun _ _ _ h => h) (Or.inl ⟨by rfl, ?_⟩) hS ?_
          rotate_left 1
          · intro w' hSw
            go_simp
            rw [if_pos (show (0 : Int) ≤ (i : Int) + 1 ∧ (i : Int) + 1 ≤ (P.length : Int) from ⟨by omega, by omega⟩)]
          try simp only [List.getElem_toArray, List.getElem_cons_zero, List.getElem_cons_succ, Act.put, List.setIfInBounds_toArray, List.set_cons_zero, List.set_cons_succ]
          refine wpAnyH_ready (rs := [16]) (by kernel_rfl) (by simp) (AllReadyH.cons rfl (fun K hK => ?_) AllReadyH.nil)
          refine step_append_rowZ _ (by rfl) (.tmp 35) (.tmp 42) 49 (by rfl) 60 i0 _ 3 40 Tryz.underlying49 hi hz hz1 hz2 rfl _ g6 i ([] ++ (rpV P).take (i * 3)) (by rfl) hr6 hv6 ad (P.length - (i + 1)) (c - (i + 1)) ((rpV P).drop ((i + 1) * 3)) (by rfl) (by rw [List.length_drop, hPl]; omega) (hnew _ hb6) (fun u hu => hone u (List.mem_of_mem_drop hu)) (by unfold maxLen; omega) (by omega) ?_
          intro v7 w7 g7 hr7 hgr7 hv7 hg7 hlt7
          obtain ⟨cap7, rfl⟩ := hr7.form3 hv7
          have hb7 : Below w_.heap.size w_ w7 := hb6.grown hgr7 hb6.size (fun k e => by have e : some g6 = some k := e; injection e with e; omega)
          have hg7' : w_.heap.size ≤ g7 := by rcases hg7 with e | ⟨e, _⟩ <;> (have := hb6.size; omega)
          have hlist : [] ++ (rpV P).take (i * 3) ++ (rpV P).drop ((i + 1) * 3) = rpV (P.eraseIdx i) := by rw [List.nil_append, rpV_erase _ _ hil]
          have hlen7 : i + (P.length - (i + 1)) = (P.eraseIdx i).length := by rw [List.length_eraseIdx_of_lt hil]; omega
          rw [hlist, hlen7] at hr7
          rw [hlen7]
          have hfin := hN.reset (P' := P.eraseIdx i) (S' := upd S a b ((S a b).eraseIdx k.toNat)) (fun p hp => List.mem_of_mem_eraseIdx hp) (by rw [List.length_eraseIdx_of_lt hil]; omega) (hSE) hb7 hr7 hg7' hlt7
          have hR7 := (hN.keep (fun j q => hb7.block j (hN.lt j q)) hb7.size).bk
          have cR7 := hX _ hb7
          have fR7 := hR7.frozen 0
          refine hK _ _ trivial (fun hS => ?_)
          clear hK K hgr7 hg7 hr6 hr7 hlist
          try simp only [List.getElem_toArray, List.getElem_cons_zero, List.getElem_cons_succ, Act.put, List.setIfInBounds_toArray, List.set_cons_zero, List.set_cons_succ]
          refine wpAnyH_ready (rs := [17]) (by kernel_rfl) (by simp) (AllReadyH.cons rfl (fun K hK => ?_) AllReadyH.nil)
          go_simp
          refine hK _ _ trivial (fun hS => ?_)
          clear hK K
          try simp only [List.getElem_toArray, List.getElem_cons_zero, List.getElem_cons_succ, Act.put, List.setIfInBounds_toArray, List.set_cons_zero, List.set_cons_succ]
          refine wpAnyH_ready (rs := [18]) (by kernel_rfl) (by simp) (AllReadyH.cons rfl (fun K hK => ?_) AllReadyH.nil)
          go_simp
          refine hK _ _ trivial (fun hS => ?_)
          clear hK K
          try simp only [List.getElem_toArray, List.getElem_cons_zero, List.getElem_cons_succ, Act.put, List.setIfInBounds_toArray, List.set_cons_zero, List.set_cons_succ]
          refine wpAnyH_ready (rs := [19]) (by kernel_rfl) (by simp) (AllReadyH.cons rfl (fun K hK => ?_) AllReadyH.nil)
          go_simp
          refine hK _ _ trivial (fun hS => ?_)
          clear hK K
          try simp only [List.getElem_toArray, List.getElem_cons_zero, List.getElem_cons_succ, Act.put, List.setIfInBounds_toArray, List.set_cons_zero, List.set_cons_succ]
          refine wpAnyH_done (by kernel_rfl) ?_ _
          go_ways
          go_wp2_with fail
          go_ret2
          rw [HV.out]
          exact ⟨pA, pc, rfl, hfin.1, hfin.2 _ hpm⟩
        · go_simp
          refine hK _ _ trivial (fun hS => ?_)
          clear hK K
          try simp only [List.getElem_toArray, List.getElem_cons_zero, List.getElem_cons_succ, Act.put, List.setIfInBounds_toArray, List.set_cons_zero, List.set_cons_succ]
          refine wpAnyH_take (i := 15) (v := ?_) rfl (by kernel_rfl) (by kernel_rfl) (by kernel_rfl) (fun _ _ _ h => h) (Or.inl ⟨by rfl, ?_⟩) hS ?_
          rotate_left 1
          · intro w' hSw
            go_simp
            rw [if_pos (show (0 : Int) ≤ (i : Int) + 1 ∧ (i : Int) + 1 ≤ (P.length : Int) from ⟨by omega, by omega⟩)]
          try simp only [List.getElem_toArray, List.getElem_cons_zero, List.getElem_cons_succ, Act.put, List.setIfInBounds_toArray, List.set_cons_zero, List.set_cons_succ]
          refine wpAnyH_ready (rs := [8]) (by kernel_rfl) (by simp) (AllReadyH.cons rfl (fun K hK => ?_) AllReadyH.nil)
          refine step_append_rowZ _ (by rfl) (.tmp 28) (.tmp 34) 49 (by rfl) 60 i0 _ 3 40 Tryz.underlying49 hi hz hz1 hz2 rfl (.slice (some ⟨w_.heap.size, 0, none⟩) 0 0) w_.heap.size 0 [] (by rfl) hr5 rfl ⟨g, 0, none⟩ i c ((rpV P).take (i * 3)) (by rfl) (by rw [List.length_take, hPl]; omega) (hold _ hb5) (fun u hu => hone u (List.mem_of_mem_take hu)) (by unfold maxLen; omega) (by omega) ?_
          intro v6 w6 g6 hr6 hgr6 hv6 hg6 hlt6
          obtain ⟨cap6, rfl⟩ := hr6.form3 hv6
          rw [show 0 + i = i from Nat.zero_add i] at hr6 hv6 ⊢
          have hb6 : Below w_.heap.size w_ w6 := hb5.grown hgr6 (by omega) (fun k e => by have e : some w_.heap.size = some k := e; injection e with e; omega)
          have hg6' : w_.heap.size ≤ g6 := by rcases hg6 with e | ⟨e, _⟩ <;> omega
          refine hK _ _ trivial (fun hS => ?_)
          clear hK K hgr6 hg6 hr5
          have cR6 := hX _ hb6
          try simp only [List.getElem_toArray, List.getElem_cons_zero, List.getElem_cons_succ, Act.put, List.setIfInBounds_toArray, List.set_cons_zero, List.set_cons_succ]
          refine wpAnyH_ready (rs := [16]) (by kernel_rfl) (by simp) (AllReadyH.cons rfl (fun K hK => ?_) AllReadyH.nil)
          refine step_append_rowZ _ (by rfl) (.tmp 35) (.tmp 42) 49 (by rfl) 60 i0 _ 3 40 Tryz.underlying49 hi hz hz1 hz2 rfl _ g6 i ([] ++ (rpV P).take (i * 3)) (by rfl) hr6 hv6 ad (P.length - (i + 1)) (c - (i + 1)) ((rpV P).drop ((i + 1) * 3)) (by rfl) (by rw [List.length_drop, hPl]; omega) (hnew _ hb6) (fun u hu => hone u (List.mem_of_mem_drop hu)) (by unfold maxLen; omega) (by omega) ?_
          intro v7 w7 g7 hr7 hgr7 hv7 hg7 hlt7
          obtain ⟨cap7, rfl⟩ := hr7.form3 hv7
          have hb7 : Below w_.heap.size w_ w7 := hb6.grown hgr7 hb6.size (fun k e => by have e : some g6 = some k := e; injection e with e; omega)
          have hg7' : w_.heap.size ≤ g7 := by rcases hg7 with e | ⟨e, _⟩ <;> (have := hb6.size; omega)
          have hlist : [] ++ (rpV P).take (i * 3) ++ (rpV P).drop ((i + 1) * 3) = rpV (P.eraseIdx i) := by rw [List.nil_append, rpV_erase _ _ hil]
          have hlen7 : i + (P.length - (i + 1)) = (P.eraseIdx i).length := by rw [List.length_eraseIdx_of_lt hil]; omega
          rw [hlist, hlen7] at hr7
          rw [hlen7]
          have hfin := hN.reset (P' := P.eraseIdx i) (S' := upd S a b ((S a b).eraseIdx k.toNat)) (fun p hp => List.mem_of_mem_eraseIdx hp) (by rw [List.length_eraseIdx_of_lt hil]; omega) (hSE) hb7 hr7 hg7' hlt7
          have hR7 := (hN.keep (fun j q => hb7.block j (hN.lt j q)) hb7.size).bk
          have cR7 := hX _ hb7
          have fR7 := hR7.frozen 0
          refine hK _ _ trivial (fun hS => ?_)
          clear hK K hgr7 hg7 hr6 hr7 hlist
          try simp only [List.getElem_toArray, List.getElem_cons_zero, List.getElem_cons_succ, Act.put, List.setIfInBounds_toArray, List.set_cons_zero, List.set_cons_succ]
          refine wpAnyH_ready (rs := [17]) (by kernel_rfl) (by simp) (AllReadyH.cons rfl (fun K hK => ?_) AllReadyH.nil)
          go_simp
          refine hK _ _ trivial (fun hS => ?_)
          clear hK K
          try simp only [List.getElem_toArray, List.getElem_cons_zero, List.getElem_cons_succ, Act.put, List.setIfInBounds_toArray, List.set_cons_zero, List.set_cons_succ]
          refine wpAnyH_ready (rs := [18]) (by kernel_rfl) (by simp) (AllReadyH.cons rfl (fun K hK => ?_) AllReadyH.nil)
          go_simp
          refine hK _ _ trivial (fun hS => ?_)
          clear hK K
          try simp only [List.getElem_toArray, List.getElem_cons_zero, List.getElem_cons_succ, Act.put, List.setIfInBounds_toArray, List.set_cons_zero, List.set_cons_succ]
          refine wpAnyH_ready (rs := [19]) (by kernel_rfl) (by simp) (AllReadyH.cons rfl (fun K hK => ?_) AllReadyH.nil)
          go_simp
          refine hK _ _ trivial (fun hS => ?_)
          clear hK K
          try simp only [List.getElem_toArray, List.getElem_cons_zero, List.getElem_cons_succ, Act.put, List.setIfInBounds_toArray, List.set_cons_zero, List.set_cons_succ]
          refine wpAnyH_done (by kernel_rfl) ?_ _
          go_ways
          go_wp2_with fail
          go_ret2
          rw [HV.out]
          exact ⟨pA, pc, rfl, hfin.1, hfin.2 _ hpm⟩
      · go_simp
        refine hK _ _ trivial (fun hS => ?_)
        clear hK K
        try simp only [List.getElem_toArray, List.getElem_cons_zero, List.getElem_cons_succ, Act.put, List.setIfInBounds_toArray, List.set_cons_zero, List.set_cons_succ]
        refine wpAnyH_take (i := 15) (v := ?_) rfl (by kernel_rfl) (by kernel_rfl) (by kernel_rfl) (fun _ _ _ h => h) (Or.inl ⟨by rfl, ?_⟩) hS ?_
        rotate_left 1
        · intro w' hSw
          go_simp
          rw [if_pos (show (0 : Int) ≤ (i : Int) + 1 ∧ (i : Int) + 1 ≤ (P.length : Int) from ⟨by omega, by omega⟩)]
        try simp only [List.getElem_toArray, List.getElem_cons_zero, List.getElem_cons_succ, Act.put, List.setIfInBounds_toArray, List.set_cons_zero, List.set_cons_succ]
        refine wpAnyH_ready (rs := [1]) (by kernel_rfl) (by simp) (AllReadyH.cons rfl (fun K hK => ?_) AllReadyH.nil)
        go_simp
        refine hK _ _ trivial (fun hS => ?_)
        clear hK K
        generalize ((w_.alloc (.cells #[] 60)).drew) = w5 at *
        have cR5 := hX _ hb5
        try simp only [List.getElem_toArray, List.getElem_cons_zero, List.getElem_cons_succ, Act.put, List.setIfInBounds_toArray, List.set_cons_zero, List.set_cons_succ]
        refine wpAnyH_ready (rs := [8]) (by kernel_rfl) (by simp) (AllReadyH.cons rfl (fun K hK => ?_) AllReadyH.nil)
        refine step_append_rowZ _ (by rfl) (.tmp 28) (.tmp 34) 49 (by rfl) 60 i0 _ 3 40 Tryz.underlying49 hi hz hz1 hz2 rfl (.slice (some ⟨w_.heap.size, 0, none⟩) 0 0) w_.heap.size 0 [] (by rfl) hr5 rfl ⟨g, 0, none⟩ i c ((rpV P).take (i * 3)) (by rfl) (by rw [List.length_take, hPl]; omega) (hold _ hb5) (fun u hu => hone u (List.mem_of_mem_take hu)) (by unfold maxLen; omega) (by omega) ?_
        intro v6 w6 g6 hr6 hgr6 hv6 hg6 hlt6
        obtain ⟨cap6, rfl⟩ := hr6.form3 hv6
        rw [show 0 + i = i from Nat.zero_add i] at hr6 hv6 ⊢
        have hb6 : Below w_.heap.size w_ w6 := hb5.grown hgr6 (by omega) (fun k e => by have e : some w_.heap.size = some k := e; injection e with e; omega)
        have hg6' : w_.heap.size ≤ g6 := by rcases hg6 with e | ⟨e, _⟩ <;> omega
        refine hK _ _ trivial (fun hS => ?_)
        clear hK K hgr6 hg6 hr5
        have cR6 := hX _ hb6
        try simp only [List.getElem_toArray, List.getElem_cons_zero, List.getElem_cons_succ, Act.put, List.setIfInBounds_toArray, List.set_cons_zero, List.set_cons_succ]
        refine wpAnyH_ready (rs := [16]) (by kernel_rfl) (by simp) (AllReadyH.cons rfl (fun K hK => ?_) AllReadyH.nil)
        refine step_append_rowZ _ (by rfl) (.tmp 35) (.tmp 42) 49 (by rfl) 60 i0 _ 3 40 Tryz.underlying49 hi hz hz1 hz2 rfl _ g6 i ([] ++ (rpV P).take (i * 3)) (by rfl) hr6 hv6 ad (P.length - (i + 1)) (c - (i + 1)) ((rpV P).drop ((i + 1) * 3)) (by rfl) (by rw [List.length_drop, hPl]; omega) (hnew _ hb6) (fun u hu => hone u (List.mem_of_mem_drop hu)) (by unfold maxLen; omega) (by omega) ?_
        intro v7 w7 g7 hr7 hgr7 hv7 hg7 hlt7
        obtain ⟨cap7, rfl⟩ := hr7.form3 hv7
        have hb7 : Below w_.heap.size w_ w7 := hb6.grown hgr7 hb6.size (fun k e => by have e : some g6 = some k := e; injection e with e; omega)
        have hg7' : w_.heap.size ≤ g7 := by rcases hg7 with e | ⟨e, _⟩ <;> (have := hb6.size; omega)
        have hlist : [] ++ (rpV P).take (i * 3) ++ (rpV P).drop ((i + 1) * 3) = rpV (P.eraseIdx i) := by rw [List.nil_append, rpV_erase _ _ hil]
        have hlen7 : i + (P.length - (i + 1)) = (P.eraseIdx i).length := by rw [List.length_eraseIdx_of_lt hil]; omega
        rw [hlist, hlen7] at hr7
        rw [hlen7]
        have hfin := hN.reset (P' := P.eraseIdx i) (S' := upd S a b ((S a b).eraseIdx k.toNat)) (fun p hp => List.mem_of_mem_eraseIdx hp) (by rw [List.length_eraseIdx_of_lt hil]; omega) (hSE) hb7 hr7 hg7' hlt7
        have hR7 := (hN.keep (fun j q => hb7.block j (hN.lt j q)) hb7.size).bk
        have cR7 := hX _ hb7
        have fR7 := hR7.frozen 0
        refine hK _ _ trivial (fun hS => ?_)
        clear hK K hgr7 hg7 hr6 hr7 hlist
        try simp only [List.getElem_toArray, List.getElem_cons_zero, List.getElem_cons_succ, Act.put, List.setIfInBounds_toArray, List.set_cons_zero, List.set_cons_succ]
        refine wpAnyH_ready (rs := [17]) (by kernel_rfl) (by simp) (AllReadyH.cons rfl (fun K hK => ?_) AllReadyH.nil)
        go_simp
        refine hK _ _ trivial (fun hS => ?_)
        clear hK K
        try simp only [List.getElem_toArray, List.getElem_cons_zero, List.getElem_cons_succ, Act.put, List.setIfInBounds_toArray, List.set_cons_zero, List.set_cons_succ]
        refine wpAnyH_ready (rs := [18]) (by kernel_rfl) (by simp) (AllReadyH.cons rfl (fun K hK => ?_) AllReadyH.nil)
        go_simp
        refine hK _ _ trivial (fun hS => ?_)
        clear hK K
        try simp only [List.getElem_toArray, List.getElem_cons_zero, List.getElem_cons_succ, Act.put, List.setIfInBounds_toArray, List.set_cons_zero, List.set_cons_succ]
        refine wpAnyH_ready (rs := [19]) (by kernel_rfl) (by simp) (AllReadyH.cons rfl (fun K hK => ?_) AllReadyH.nil)
        go_simp
        refine hK _ _ trivial (fun hS => ?_)
        clear hK K
        try simp only [List.getElem_toArray, List.getElem_cons_zero, List.getElem_cons_succ, Act.put, List.setIfInBounds_toArray, List.set_cons_zero, List.set_cons_succ]
        refine wpAnyH_done (by kernel_rfl) ?_ _
        go_ways
        go_wp2_with fail
        go_ret2
        rw [HV.out]
        exact ⟨pA, pc, rfl, hfin.1, hfin.2 _ hpm⟩
    · go_simp
      refine hK _ _ trivial (fun hS => ?_)
      clear hK K
      try simp only [List.getElem_toArray, List.getElem_cons_zero, List.getElem_cons_succ, Act.put, List.setIfInBounds_toArray, List.set_cons_zero, List.set_cons_succ]
      refine wpAnyH_take (i := 15) (v := ?_) rfl (by kernel_rfl) (by kernel_rfl) (by kernel_rfl) (fun _ _ _ h => h) (Or.inl ⟨by rfl, ?_⟩) hS ?_
      rotate_left 1
      · intro w' hSw
        go_simp
        rw [if_pos (show (0 : Int) ≤ (i : Int) + 1 ∧ (i : Int) + 1 ≤ (P.length : Int) from ⟨by omega, by omega⟩)]
      try simp only [List.getElem_toArray, List.getElem_cons_zero, List.getElem_cons_succ, Act.put, List.setIfInBounds_toArray, List.set_cons_zero, List.set_cons_succ]
      refine wpAnyH_ready (rs := [1, 5]) (by kernel_rfl) (by simp) (AllReadyH.cons rfl (fun K hK => ?_) (AllReadyH.cons rfl (fun K hK => ?_) AllReadyH.nil))
      · go_simp
        refine hK _ _ trivial (fun hS => ?_)
        clear hK K
        generalize ((w_.alloc (.cells #[] 60)).drew) = w5 at *
        have cR5 := hX _ hb5
        try simp only [List.getElem_toArray, List.getElem_cons_zero, List.getElem_cons_succ, Act.put, List.setIfInBounds_toArray, List.set_cons_zero, List.set_cons_succ]
        refine wpAnyH_ready (rs := [5]) (by kernel_rfl) (by simp) (AllReadyH.cons rfl (fun K hK => ?_) AllReadyH.nil)
        go_simp
        refine hK _ _ trivial (fun hS => ?_)
        clear hK K
        try simp only [List.getElem_toArray, List.getElem_cons_zero, List.getElem_cons_succ, Act.put, List.setIfInBounds_toArray, List.set_cons_zero, List.set_cons_succ]
        refine wpAnyH_take (i := 7) (v := ?_) rfl (by kernel_rfl) (by kernel_rfl) (by kernel_rfl) (fun _ _ _ h => h) (Or.inl ⟨by rfl, ?_⟩) hS ?_
        rotate_left 1
        · intro w' hSw
          go_simp
          rw [if_pos (show i ≤ c by omega)]
        try simp only [List.getElem_toArray, List.getElem_cons_zero, List.getElem_cons_succ, Act.put, List.setIfInBounds_toArray, List.set_cons_zero, List.set_cons_succ]
        refine wpAnyH_ready (rs := [8]) (by kernel_rfl) (by simp) (AllReadyH.cons rfl (fun K hK => ?_) AllReadyH.nil)
        refine step_append_rowZ _ (by rfl) (.tmp 28) (.tmp 34) 49 (by rfl) 60 i0 _ 3 40 Tryz.underlying49 hi hz hz1 hz2 rfl (.slice (some ⟨w_.heap.size, 0, none⟩) 0 0) w_.heap.size 0 [] (by rfl) hr5 rfl ⟨g, 0, none⟩ i c ((rpV P).take (i * 3)) (by rfl) (by rw [List.length_take, hPl]; omega) (hold _ hb5) (fun u hu => hone u (List.mem_of_mem_take hu)) (by unfold maxLen; omega) (by omega) ?_
        intro v6 w6 g6 hr6 hgr6 hv6 hg6 hlt6
        obtain ⟨cap6, rfl⟩ := hr6.form3 hv6
        rw [show 0 + i = i from Nat.zero_add i] at hr6 hv6 ⊢
        have hb6 : Below w_.heap.size w_ w6 := hb5.grown hgr6 (by omega) (fun k e => by have e : some w_.heap.size = some k := e; injection e with e; omega)
        have hg6' : w_.heap.size ≤ g6 := by rcases hg6 with e | ⟨e, _⟩ <;> omega
        refine hK _ _ trivial (fun hS => ?_)
        clear hK K hgr6 hg6 hr5
        have cR6 := hX _ hb6
        try simp only [List.getElem_toArray, List.getElem_cons_zero, List.getElem_cons_succ, Act.put, List.setIfInBounds_toArray, List.set_cons_zero, List.set_cons_succ]
        refine wpAnyH_ready (rs := [16]) (by kernel_rfl) (by simp) (AllReadyH.cons rfl (fun K hK => ?_) AllReadyH.nil)
        refine step_append_rowZ _ (by rfl) (.tmp 35) (.tmp 42) 49 (by rfl) 60 i0 _ 3 40 Tryz.underlying49 hi hz hz1 hz2 rfl _ g6 i ([] ++ (rpV P).take (i * 3)) (by rfl) hr6 hv6 ad (P.length - (i + 1)) (c - (i + 1)) ((rpV P).drop ((i + 1) * 3)) (by rfl) (by rw [List.length_drop, hPl]; omega) (hnew _ hb6) (fun u hu => hone u (List.mem_of_mem_drop hu)) (by unfold maxLen; omega) (by omega) ?_
        intro v7 w7 g7 hr7 hgr7 hv7 hg7 hlt7
        obtain ⟨cap7, rfl⟩ := hr7.form3 hv7
        have hb7 : Below w_.heap.size w_ w7 := hb6.grown hgr7 hb6.size (fun k e => by have e : some g6 = some k := e; injection e with e; omega)
        have hg7' : w_.heap.size ≤ g7 := by rcases hg7 with e | ⟨e, _⟩ <;> (have := hb6.size; omega)
        have hlist : [] ++ (rpV P).take (i * 3) ++ (rpV P).drop ((i + 1) * 3) = rpV (P.eraseIdx i) := by rw [List.nil_append, rpV_erase _ _ hil]
        have hlen7 : i + (P.length - (i + 1)) = (P.eraseIdx i).length := by rw [List.length_eraseIdx_of_lt hil]; omega
        rw [hlist, hlen7] at hr7
        rw [hlen7]
        have hfin := hN.reset (P' := P.eraseIdx i) (S' := upd S a b ((S a b).eraseIdx k.toNat)) (fun p hp => List.mem_of_mem_eraseIdx hp) (by rw [List.length_eraseIdx_of_lt hil]; omega) (hSE) hb7 hr7 hg7' hlt7
        have hR7 := (hN.keep (fun j q => hb7.block j (hN.lt j q)) hb7.size).bk
        have cR7 := hX _ hb7
        have fR7 := hR7.frozen 0
        refine hK _ _ trivial (fun hS => ?_)
        clear hK K hgr7 hg7 hr6 hr7 hlist
        try simp only [List.getElem_toArray, List.getElem_cons_zero, List.getElem_cons_succ, Act.put, List.setIfInBounds_toArray, List.set_cons_zero, List.set_cons_succ]
        refine wpAnyH_ready (rs := [17]) (by kernel_rfl) (by simp) (AllReadyH.cons rfl (fun K hK => ?_) AllReadyH.nil)
        go_simp
        refine hK _ _ trivial (fun hS => ?_)
        clear hK K
        try simp only [List.getElem_toArray, List.getElem_cons_zero, List.getElem_cons_succ, Act.put, List.setIfInBounds_toArray, List.set_cons_zero, List.set_cons_succ]
        refine wpAnyH_ready (rs := [18]) (by kernel_rfl) (by simp) (AllReadyH.cons rfl (fun K hK => ?_) AllReadyH.nil)
        go_simp
        refine hK _ _ trivial (fun hS => ?_)
        clear hK K
        try simp only [List.getElem_toArray, List.getElem_cons_zero, List.getElem_cons_succ, Act.put, List.setIfInBounds_toArray, List.set_cons_zero, List.set_cons_succ]
        refine wpAnyH_ready (rs := [19]) (by kernel_rfl) (by simp) (AllReadyH.cons rfl (fun K hK => ?_) AllReadyH.nil)
        go_simp
        refine hK _ _ trivial (fun hS => ?_)
        clear hK K
        try simp only [List.getElem_toArray, List.getElem_cons_zero, List.getElem_cons_succ, Act.put, List.setIfInBounds_toArray, List.set_cons_zero, List.set_cons_succ]
        refine wpAnyH_done (by kernel_rfl) ?_ _
        go_ways
        go_wp2_with fail
        go_ret2
        rw [HV.out]
        exact ⟨pA, pc, rfl, hfin.1, hfin.2 _ hpm⟩
      · go_simp
        refine hK _ _ trivial (fun hS => ?_)
        clear hK K
        try simp only [List.getElem_toArray, List.getElem_cons_zero, List.getElem_cons_succ, Act.put, List.setIfInBounds_toArray, List.set_cons_zero, List.set_cons_succ]
        refine wpAnyH_take (i := 7) (v := ?_) rfl (by kernel_rfl) (by kernel_rfl) (by kernel_rfl) (fun _ _ _ h => h) (Or.inl ⟨by rfl, ?_⟩) hS ?_
        rotate_left 1
        · intro w' hSw
          go_simp
          rw [if_pos (show i ≤ c by omega)]
        try simp only [List.getElem_toArray, List.getElem_cons_zero, List.getElem_cons_succ, Act.put, List.setIfInBounds_toArray, List.set_cons_zero, List.set_cons_succ]
        refine wpAnyH_ready (rs := [1]) (by kernel_rfl) (by simp) (AllReadyH.cons rfl (fun K hK => ?_) AllReadyH.nil)
        go_simp
        refine hK _ _ trivial (fun hS => ?_)
        clear hK K
        generalize ((w_.alloc (.cells #[] 60)).drew) = w5 at *
        have cR5 := hX _ hb5
        try simp only [List.getElem_toArray, List.getElem_cons_zero, List.getElem_cons_succ, Act.put, List.setIfInBounds_toArray, List.set_cons_zero, List.set_cons_succ]
        refine wpAnyH_ready (rs := [8]) (by kernel_rfl) (by simp) (AllReadyH.cons rfl (fun K hK => ?_) AllReadyH.nil)
        refine step_append_rowZ _ (by rfl) (.tmp 28) (.tmp 34) 49 (by rfl) 60 i0 _ 3 40 Tryz.underlying49 hi hz hz1 hz2 rfl (.slice (some ⟨w_.heap.size, 0, none⟩) 0 0) w_.heap.size 0 [] (by rfl) hr5 rfl ⟨g, 0, none⟩ i c ((rpV P).take (i * 3)) (by rfl) (by rw [List.length_take, hPl]; omega) (hold _ hb5) (fun u hu => hone u (List.mem_of_mem_take hu)) (by unfold maxLen; omega) (by omega) ?_
        intro v6 w6 g6 hr6 hgr6 hv6 hg6 hlt6
        obtain ⟨cap6, rfl⟩ := hr6.form3 hv6
        rw [show 0 + i = i from Nat.zero_add i] at hr6 hv6 ⊢
        have hb6 : Below w_.heap.size w_ w6 := hb5.grown hgr6 (by omega) (fun k e => by have e : some w_.heap.size = some k := e; injection e with e; omega)
        have hg6' : w_.heap.size ≤ g6 := by rcases hg6 with e | ⟨e, _⟩ <;> omega
        refine hK _ _ trivial (fun hS => ?_)
        clear hK K hgr6 hg6 hr5
        have cR6 := hX _ hb6
        try simp only [List.getElem_toArray, List.getElem_cons_zero, List.getElem_cons_succ, Act.put, List.setIfInBounds_toArray, List.set_cons_zero, List.set_cons_succ]
        refine wpAnyH_ready (rs := [16]) (by kernel_rfl) (by simp) (AllReadyH.cons rfl (fun K hK => ?_) AllReadyH.nil)
        refine step_append_rowZ _ (by rfl) (.tmp 35) (.tmp 42) 49 (by rfl) 60 i0 _ 3 40 Tryz.underlying49 hi hz hz1 hz2 rfl _ g6 i ([] ++ (rpV P).take (i * 3)) (by rfl) hr6 hv6 ad (P.length - (i + 1)) (c - (i + 1)) ((rpV P).drop ((i + 1) * 3)) (by rfl) (by rw [List.length_drop, hPl]; omega) (hnew _ hb6) (fun u hu => hone u (List.mem_of_mem_drop hu)) (by unfold maxLen; omega) (by omega) ?_
        intro v7 w7 g7 hr7 hgr7 hv7 hg7 hlt7
        obtain ⟨cap7, rfl⟩ := hr7.form3 hv7
        have hb7 : Below w_.heap.size w_ w7 := hb6.grown hgr7 hb6.size (fun k e => by have e : some g6 = some k := e; injection e with e; omega)
        have hg7' : w_.heap.size ≤ g7 := by rcases hg7 with e | ⟨e, _⟩ <;> (have := hb6.size; omega)
        have hlist : [] ++ (rpV P).take (i * 3) ++ (rpV P).drop ((i + 1) * 3) = rpV (P.eraseIdx i) := by rw [List.nil_append, rpV_erase _ _ hil]
        have hlen7 : i + (P.length - (i + 1)) = (P.eraseIdx i).length := by rw [List.length_eraseIdx_of_lt hil]; omega
        rw [hlist, hlen7] at hr7
        rw [hlen7]
        have hfin := hN.reset (P' := P.eraseIdx i) (S' := upd S a b ((S a b).eraseIdx k.toNat)) (fun p hp => List.mem_of_mem_eraseIdx hp) (by rw [List.length_eraseIdx_of_lt hil]; omega) (hSE) hb7 hr7 hg7' hlt7
        have hR7 := (hN.keep (fun j q => hb7.block j (hN.lt j q)) hb7.size).bk
        have cR7 := hX _ hb7
        have fR7 := hR7.frozen 0
        refine hK _ _ trivial (fun hS => ?_)
        clear hK K hgr7 hg7 hr6 hr7 hlist
        try simp only [List.getElem_toArray, List.getElem_cons_zero, List.getElem_cons_succ, Act.put, List.setIfInBounds_toArray, List.set_cons_zero, List.set_cons_succ]
        refine wpAnyH_ready (rs := [17]) (by kernel_rfl) (by simp) (AllReadyH.cons rfl (fun K hK => ?_) AllReadyH.nil)
        go_simp
        refine hK _ _ trivial (fun hS => ?_)
        clear hK K
        try simp only [List.getElem_toArray, List.getElem_cons_zero, List.getElem_cons_succ, Act.put, List.setIfInBounds_toArray, List.set_cons_zero, List.set_cons_succ]
        refine wpAnyH_ready (rs := [18]) (by kernel_rfl) (by simp) (AllReadyH.cons rfl (fun K hK => ?_) AllReadyH.nil)
        go_simp
        refine hK _ _ trivial (fun hS => ?_)
        clear hK K
        try simp only [List.getElem_toArray, List.getElem_cons_zero, List.getElem_cons_succ, Act.put, List.setIfInBounds_toArray, List.set_cons_zero, List.set_cons_succ]
        refine wpAnyH_ready (rs := [19]) (by kernel_rfl) (by simp) (AllReadyH.cons rfl (fun K hK => ?_) AllReadyH.nil)
        go_simp
        refine hK _ _ trivial (fun hS => ?_)
        clear hK K
        try simp only [List.getElem_toArray, List.getElem_cons_zero, List.getElem_cons_succ, Act.put, List.setIfInBounds_toArray, List.set_cons_zero, List.set_cons_succ]
        refine wpAnyH_done (by kernel_rfl) ?_ _
        go_ways
        go_wp2_with fail
        go_ret2
        rw [HV.out]
        exact ⟨pA, pc, rfl, hfin.1, hfin.2 _ hpm⟩
  · have hE : tkE S a b k = 6 := by rw [tkE, if_neg hin]
    have hSS : tkS S a b k = S := by rw [tkS, if_neg hin]
    have hV : tkV S a b k = [] := by rw [tkV, if_neg hin]
    rw [hE, hSS, hV]
    have hD := RDid.same h (Nat.le_refl n) hN.nn
    go_enter Tryz.func20, Tryz.ntmps20
    go_wp2_with fail
    (with_reducible refine hpl.mono ?_)
    rintro _ w_ ⟨⟨x, rfl, hx⟩, rfl⟩
    obtain rfl : x = -1 := by
      rcases hx with ⟨i, p, hp, h1, h2, h3, _⟩ | ⟨e, _⟩
      · exact absurd (Plc.in_ hsg hp h1 h2 h3).1 hin
      · exact e
    clear hx hpl
    go_wp2_with fail
    go_ret2
    exact ⟨none, 0, rfl, hD, fun _ => True, Dat.nil _ _⟩
theorem rop_drop {B : Nat → Prop} {R n : Nat} {S : Sg} (a b k : Int) (hk : I64 k) (w : World) (h : RB B R S n w) :
    Calls Tryz.prog 22 #[.pointer (some ⟨R, 0, none⟩), .int .i64 a, .int .i64 b, .int .i64 k] w fun e w' => e = .returned (.int .i64 (tkE S a b k)) ∧ RDid B R (tkS S a b k) n w w' := by
  have ht := rop_take a b k hk w h
  go_enter Tryz.func22, Tryz.ntmps22
  go_wp2_with fail
  (with_reducible refine ht.mono ?_)
  rintro _ w1 ⟨A, c, rfl, hd, _⟩
  clear ht
  go_wp2_with fail
  go_ret
  exact ⟨rfl, hd⟩
theorem rop_double {B : Nat → Prop} {R n : Nat} {S : Sg} (a b k : Int) (ha : I64 a) (hb : I64 b) (hk : I64 k) (w : World) (h : RB B R S n w) (hn : n + 1 ≤ 1000000) :
    Calls Tryz.prog 23 #[.pointer (some ⟨R, 0, none⟩), .int .i64 a, .int .i64 b, .int .i64 k] w fun e w' => e = .returned (.int .i64 (dbE S a b k)) ∧ RDid B R (dbS S a b k) (n + 1) w w' := by
  obtain ⟨P, v, g, hN, hsg, hrc⟩ := h.at_
  have hpl := place_any a b k hk hN
  by_cases hin : 0 ≤ k ∧ k < (S a b).length
  · have hV : ∀ l, (S a b).getD k.toNat [] = l → l.length ≤ 262144 → sndE S a b l = dbE S a b k ∧ sndS S a b l = dbS S a b k := by
      intro l hl hlen
      have h1 : sndE S a b l = dbE S a b k := by
        unfold sndE dbE
        rw [if_neg (by omega), if_pos hin]
      exact ⟨h1, by unfold sndS dbS; rw [h1, hl]⟩
    go_enter Tryz.func23, Tryz.ntmps23
    go_wp2_with fail
    (with_reducible refine hpl.mono ?_)
    rintro _ w_ ⟨⟨x, rfl, hx⟩, rfl⟩
    clear hpl
    obtain ⟨i, p, hp, h1, h2, h3, rfl⟩ : ∃ i p, P[i]? = some p ∧ p.a = a ∧ p.b = b ∧ (rc (P.take i) a b : Int) = k ∧ x = (i : Int) := by
      rcases hx with hx | ⟨_, hno⟩
      · exact hx
      · exact absurd ⟨hin.1, by rw [hrc]; exact hin.2⟩ hno
    clear hx
    have hil := (List.getElem?_eq_some_iff.1 hp).1
    obtain ⟨p', c, hp', hpm, rfl, hown, _, _, c2⟩ := hN.at_ hil
    have hpp : p' = p := by rw [hp] at hp'; injection hp' with e; exact e.symm
    subst hpp
    obtain ⟨_, hV2, hri⟩ := Plc.in_ hsg hp h1 h2 h3
    have d1 : decide ((i : Int) < 0) = false := decide_eq_false (by omega)
    have d2 : decide ((i : Int) < (P.length : Int)) = true := decide_eq_true (by omega)
    have cR := hN.cellR
    obtain ⟨_, _, hlen, hdp⟩ := hN.dat _ hpm
    obtain ⟨e1, e2⟩ := hV _ hV2 hlen
    obtain ⟨pa, pb, pv⟩ := p'
    obtain ⟨pA, pc, pl⟩ := pv
    simp only [PV.val] at c2
    dsimp only at hdp e1 e2
    have hs := rop_send a b ha hb pA pc pl w_ h hn hdp.rd.1 (fun k q => q.2)
    rw [e1, e2] at hs
    go_wp2_with fail
    (with_reducible refine hs.mono ?_)
    rintro _ w1 ⟨rfl, hd⟩
    clear hs hV
    go_wp2_with fail
    go_ret
    exact ⟨rfl, hd⟩
  · have hE : dbE S a b k = 6 := by rw [dbE, if_neg hin]
    have hSS : dbS S a b k = S := by rw [dbS, hE]; rfl
    rw [hE, hSS]
    have hD := RDid.same h (Nat.le_succ n) hn
    go_enter Tryz.func23, Tryz.ntmps23
    go_wp2_with fail
    (with_reducible refine hpl.mono ?_)
    rintro _ w_ ⟨⟨x, rfl, hx⟩, rfl⟩
    obtain rfl : x = -1 := by
      rcases hx with ⟨i, p, hp, h1, h2, h3, _⟩ | ⟨e, _⟩
      · exact absurd (Plc.in_ hsg hp h1 h2 h3).1 hin
      · exact e
    clear hx hpl
    go_wp2_with fail
    go_ret
    exact ⟨rfl, hD⟩
end Go.Proofs.YtenkhbiikecegaaGreat

