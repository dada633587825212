/- Blocks known whole; instructions that are a block, lent and kept; instructions that came in: over this seat's program. -/
import Derived.Test.YtdhfdlelnkoomaaDoorROne3
import Derived.Laws.AppendOwnNone
import Derived.WalkLawsBesides
import Derived.Deep.Slices
import Derived.Deep.RegionHeld3
import Derived.OpenShut
import Derived.ChangeArms
namespace Go.Proofs.YtdhfdlelnkoomaaDoor
open Go.RowKit Go.Shelf
set_option linter.unusedVariables false
set_option maxRecDepth 100000

/-- Block g is just the cells cs, none frozen. -/
def Bk (w : World) (g : Nat) (t : TypeId) (cs : List Value) : Prop := w.heap[g]? = some (.cells cs.toArray t (0, 0))

theorem Bk.new (w : World) (t : TypeId) (cs : List Value) : Bk (w.alloc (.cells cs.toArray t)) w.heap.size t cs := heap_alloc_new w _
theorem Bk.lt {w : World} {g : Nat} {t : TypeId} {cs : List Value} (h : Bk w g t cs) : g < w.heap.size := (Array.getElem?_eq_some_iff.1 h).1
theorem Bk.below {w w' : World} {g B : Nat} {t : TypeId} {cs : List Value} (h : Bk w g t cs) (hb : Below B w w') (hg : g < B) : Bk w' g t cs := (hb.block g hg).trans h
theorem Bk.alloc {w : World} {g : Nat} {t : TypeId} {cs : List Value} (h : Bk w g t cs) (o : Obj) : Bk (w.alloc o) g t cs := (Below.heap_alloc w o g h.lt).trans h
theorem Bk.grown {w w' : World} {g : Nat} {t : TypeId} {cs : List Value} {row : Option Nat} (h : Bk w g t cs) (hb : w.grownBy w' row) (hg : some g ≠ row) : Bk w' g t cs := (hb.block g h.lt hg).trans h
theorem Bk.set {w : World} {g : Nat} {t : TypeId} {cs : List Value} (h : Bk w g t cs) (i : Nat) (u : Value) : Bk (w.setCell ⟨g, i, none⟩ u) g t (cs.set i u) := by
  have := heap_setCell_same w g i cs.toArray t u h
  unfold Bk
  rw [this]
  simp
theorem Bk.far {w : World} {g : Nat} {t : TypeId} {cs : List Value} (h : Bk w g t cs) {p : Addr} (hp : g ≠ p.block) (u : Value) : Bk (w.setCell p u) g t cs := (Below.heap_setCell w p u g hp).trans h

theorem gr_trans {a b c : World} {row : Option Nat} (h : a.grownBy b row) (k : b.grownBy c row) : a.grownBy c row :=
  ⟨k.os.trans h.os, k.tape.trans h.tape, k.output.trans h.output, Nat.le_trans h.size k.size, fun i hi hn => (k.block i (Nat.lt_of_lt_of_le hi h.size) hn).trans (h.block i hi hn)⟩
theorem gr_below {a b : World} (h : Below a.heap.size a b) (row : Option Nat) : a.grownBy b row := ⟨h.os, h.tape, h.output, h.size, fun i hi _ => h.block i hi⟩
theorem gr_far {a b c : World} {row : Option Nat} (h : a.grownBy b row) {r : Option Nat} (k : b.grownBy c r) (hr : ∀ j, r = some j → a.heap.size ≤ j) : a.grownBy c row :=
  ⟨k.os.trans h.os, k.tape.trans h.tape, k.output.trans h.output, Nat.le_trans h.size k.size, fun i hi hn => (k.block i (Nat.lt_of_lt_of_le hi h.size) (fun e => by have := hr i e.symm; omega)).trans (h.block i hi hn)⟩
theorem gr_set {a b : World} {g : Nat} (h : a.grownBy b (some g)) {p : Addr} (hp : p.block = g) (u : Value) : a.grownBy (b.setCell p u) (some g) :=
  ⟨h.os, h.tape, h.output, by simpa [World.setCell] using h.size, fun i hi hn => (Below.heap_setCell b p u i (fun e => hn (by rw [e, hp]))).trans (h.block i hi hn)⟩
theorem gr_drew {a b : World} {row : Option Nat} (h : a.grownBy b row) : a.grownBy b.drew row := ⟨h.os, h.tape, h.output, h.size, h.block⟩

theorem Bk.cell {w : World} {g : Nat} {t : TypeId} {cs : List Value} (h : Bk w g t cs) (i : Nat) : w.cell? ⟨g, i, none⟩ = cs[i]? := by
  have := cell_of_row w g i cs.toArray t (0, 0) h
  simpa using this
theorem Bk.frozen {w : World} {g : Nat} {t : TypeId} {cs : List Value} (h : Bk w g t cs) (i : Nat) : w.frozen? ⟨g, i, none⟩ = false := frozen_of_row w g i _ t h
theorem bcell {W w1 : World} (hb : Below W.heap.size W w1) : (∀ b o, b < W.heap.size → w1.cell? ⟨b, o, none⟩ = W.cell? ⟨b, o, none⟩) ∧ (∀ b o, b < W.heap.size → w1.frozen? ⟨b, o, none⟩ = W.frozen? ⟨b, o, none⟩) :=
  ⟨fun b o h => hb.cell (p := ⟨b, o, none⟩) h, fun b o h => hb.frozen (p := ⟨b, o, none⟩) h⟩
theorem Bk.drew {w : World} {g : Nat} {t : TypeId} {cs : List Value} (h : Bk w g t cs) : Bk w.drew g t cs := h
theorem mark_any (k i : Int) (w : World) (h0 : 0 ≤ k) (h1 : k ≤ 1000000000) (h2 : 0 ≤ i) (h3 : i ≤ 1000000000000000) :
    Calls Tryd.prog 30 #[.int .i64 k, .int .i64 i] w fun e w' => e = .returned (.int .i64 (1000003 * (k + 7) + i)) ∧ w = w' := by
  go_enter Tryd.func30, Tryd.ntmps30
  go_wp2
  go_ret
  exact ⟨rfl, rfl⟩
/-- An instruction's numbers are of their kinds. -/
structure InsOk (f : Ins) : Prop where
  w0 : 0 ≤ f.what
  n0 : 0 ≤ f.n
  n1 : f.n ≤ 18446744073709551615
theorem Inss.keep {w w' : World} {K K' : Nat → Prop} {A : Option Addr} {c : Nat} {xs : List Ins} (h : Inss w K A c xs) (hk : ∀ b, K b → w'.heap[b]? = w.heap[b]?) (hK : ∀ b, K b → K' b) : Inss w' K' A c xs := by
  obtain ⟨h1, h2, h3, h4⟩ := h
  refine ⟨h1, h2, h3, fun hx => ?_⟩
  obtain ⟨a, e, hb, hc⟩ := h4 hx
  exact ⟨a, e, hK _ hb, fun i x hi j hj => (World.cell?_of_block (by rw [add_blk, add_blk]; exact hk _ hb)).trans (hc i x hi j hj)⟩
theorem Inss.alloc {w : World} {A : Option Addr} {c : Nat} {xs : List Ins} (h : Inss w (fun b => b < w.heap.size) A c xs) (o : Obj) : Inss (w.alloc o) (fun b => b < (w.alloc o).heap.size) A c xs :=
  h.keep (fun b hb => Below.heap_alloc w o b hb) (fun b hb => by simp; omega)
theorem Inss.below {w w' : World} {A : Option Addr} {c : Nat} {xs : List Ins} (h : Inss w (fun b => b < w.heap.size) A c xs) (hb : Below w.heap.size w w') : Inss w' (fun b => b < w'.heap.size) A c xs :=
  h.keep (fun b hb' => hb.block b hb') (fun b hb' => Nat.lt_of_lt_of_le hb' hb.size)
def endI (a : Int) : Ins := { op := 9, what := 0, nar := false, d := 0, a := a, b := 0, n := 0, size := 0, «to» := 0 }
/-- Instructions that are a block. -/
def flatV (xs : List Ins) : List Value := xs.flatMap insV
theorem flatV_at : ∀ (xs : List Ins) (i : Nat) (x : Ins), xs[i]? = some x → ∀ j, j < 9 → (flatV xs)[i * 9 + j]? = (insV x)[j]?
  | [], i, x, h, _, _ => by simp at h
  | y :: ys, 0, x, h, j, hj => by
    simp at h
    subst h
    simp only [flatV, List.flatMap_cons, Nat.zero_mul, Nat.zero_add]
    rw [List.getElem?_append_left (by simpa [insV] using hj)]
  | y :: ys, i + 1, x, h, j, hj => by
    simp at h
    have := flatV_at ys i x h j hj
    simp only [flatV, List.flatMap_cons]
    rw [List.getElem?_append_right (by simp [insV]; omega)]
    rw [show (i + 1) * 9 + j - (insV y).length = i * 9 + j by simp [insV]; omega]
    exact this
theorem inss_bk {w : World} {g c : Nat} {xs : List Ins} {ext : List Value} (h : Bk w g 35 (flatV xs ++ ext)) (hc : xs.length ≤ c) (hm : c ≤ maxLen) : Inss w (fun b => b < w.heap.size) (some ⟨g, 0, none⟩) c xs := by
  refine ⟨fun e => (by cases e), hc, hm, fun _ => ⟨_, rfl, h.lt, fun i x hi j hj => ?_⟩⟩
  have hf := flatV_at xs i x hi j hj
  have hl : j < (insV x).length := by simpa [insV] using hj
  have hlt : i * 9 + j < (flatV xs).length := by
    rw [List.getElem?_eq_getElem hl] at hf
    exact (List.getElem?_eq_some_iff.1 hf).1
  rw [show (Addr.add (Addr.add ⟨g, 0, none⟩ (i * 9)) j) = ⟨g, i * 9 + j, none⟩ by unfold Addr.add; split <;> split <;> simp_all]
  rw [h.cell, List.getElem?_append_left hlt, hf]
theorem inss_nil (w : World) : Inss w (fun b => b < w.heap.size) none 0 [] := ⟨fun _ => rfl, Nat.le_refl _, by decide, fun h => absurd rfl h⟩
theorem okE (a : Int) : InsOk (endI a) := ⟨Int.le_refl 0, Int.le_refl 0, (by show (0 : Int) ≤ _; omega)⟩
def markI (t : Int) : Ins := { op := 0, what := 0, nar := false, d := 0, a := 0, b := 0, n := 0, size := 0, «to» := t }
def marksI (k : Nat) : List Ins := (List.range k).map fun (i : Nat) => markI (8000024 + (i : Int))
@[simp] theorem marksI_len (k : Nat) : (marksI k).length = k := by simp [marksI]
theorem marksI_succ (k : Nat) : marksI (k + 1) = marksI k ++ [markI (8000024 + (k : Int))] := by simp [marksI, List.range_succ]
theorem flatV_app (a b : List Ins) : flatV (a ++ b) = flatV a ++ flatV b := by simp [flatV]
theorem flatV_single (x : Ins) : flatV [x] = insV x := by simp [flatV]
theorem flatV_len (a : List Ins) : (flatV a).length = a.length * 9 := by
  induction a with
  | nil => rfl
  | cons x xs ih => simp only [flatV, List.flatMap_cons, List.length_append] at *; rw [ih]; simp [insV]; omega
theorem insV_one (x : Ins) : ∀ u ∈ insV x, u.oneCell' = true := by
  intro u hu
  simp [insV] at hu
  rcases hu with rfl | rfl | rfl | rfl | rfl | rfl | rfl | rfl | rfl <;> rfl
theorem flatV_one (xs : List Ins) : ∀ u ∈ flatV xs, u.oneCell' = true := by
  intro u hu
  simp only [flatV, List.mem_flatMap] at hu
  obtain ⟨x, _, hx⟩ := hu
  exact insV_one x u hx
theorem add_add' (a : Addr) (i j : Nat) : (a.add i).add j = a.add (i + j) := by
  unfold Addr.add
  by_cases hi : i = 0
  · subst hi; simp
  · by_cases hj : j = 0
    · subst hj; simp
    · simp [hi, hj]; omega
theorem Inss.cells {w : World} {K : Nat → Prop} {A : Option Addr} {c : Nat} {xs : List Ins} (h : Inss w K A c xs) : ∀ ad, A = some ad → ∀ j u, (flatV xs)[j]? = some u → w.cell? (ad.add j) = some u := by
  intro ad e j u hu
  have hl := (List.getElem?_eq_some_iff.1 hu).1
  rw [flatV_len] at hl
  obtain ⟨a, e', _, hc⟩ := h.2.2.2 (by intro e; subst e; simp at hl)
  rw [e] at e'; injection e' with e'; subst e'
  have hi : j / 9 < xs.length := by omega
  have hx := List.getElem?_eq_getElem hi
  have h1 := hc (j / 9) _ hx (j % 9) (by omega)
  have h2 := flatV_at xs (j / 9) _ hx (j % 9) (by omega)
  rw [show j / 9 * 9 + j % 9 = j by omega, hu] at h2
  rw [add_add', show j / 9 * 9 + j % 9 = j by omega, ← h2] at h1
  exact h1
theorem flat_info : (Tryd.prog.info? 35).map (fun i => (i.zero, i.size, i.bytes)) = some (some (insA (markI 0)), 9, 56) := by kernel_rfl
theorem own_all9 {w : World} {base e g n cap : Nat} {xs : List Value} (h : w.ownsRow base e 9 (.slice (some ⟨g, 0, none⟩) n cap) n xs) (hc : cap ≤ n) : Bk w g e xs := by
  rcases h.2 with ⟨h', _⟩ | ⟨g', cap', cur, h', _, hg, hnc, hcm, hcs, htake⟩
  · simp at h'
  · simp only [Value.slice.injEq, Option.some.injEq, Addr.mk.injEq, and_true, true_and] at h'
    obtain ⟨rfl, rfl⟩ := h'
    unfold Bk
    rw [hg, ← htake, List.take_of_length_le (by simp; omega)]
theorem markFlat_any (k i : Int) (w : World) (h0 : 0 ≤ k) (h1 : k ≤ 1000000000) (h2 : 0 ≤ i) (h3 : i ≤ 1000000000000000) :
    Calls Tryd.prog 19 #[.int .i64 k, .int .i64 i] w fun e w' => e = .returned (insA (markI (1000003 * (k + 7) + i))) ∧ Below w.heap.size w w' := by
  go_enter Tryd.func19, Tryd.ntmps19
  go_wp2_with fail
  refine (mark_any _ _ _ (by omega) (by omega) (by omega) (by omega)).mono ?_
  rintro _ _ ⟨rfl, rfl⟩
  go_wp2_with fail
  exact bodyPost_ret (v := insA (markI (1000003 * (k + 7) + i))) (by simp [results, Tryd.results19, go_sem, insA, insV, markI]) rfl ⟨rfl, (Below.refl _ _).alloc (Nat.le_refl _) _⟩
theorem owns_keep {w w' : World} {base e size n : Nat} {v : Value} {xs : List Value} (h : w.ownsRow base e size v n xs) (hk : ∀ g, v.ownBlock = some g → w'.heap[g]? = w.heap[g]?) : w'.ownsRow base e size v n xs := by
  refine ⟨h.1, ?_⟩
  rcases h.2 with h' | ⟨g, cap, cur, rfl, hb, hg, h1, h2, h3, h4⟩
  · exact .inl h'
  · exact .inr ⟨g, cap, cur, rfl, hb, (hk g rfl).trans hg, h1, h2, h3, h4⟩
theorem owns_lt {w : World} {base e size n : Nat} {v : Value} {xs : List Value} (h : w.ownsRow base e size v n xs) : ∀ g, v.ownBlock = some g → g < w.heap.size := by
  intro g hg
  rcases h.2 with ⟨h', _⟩ | ⟨g', cap, cur, rfl, hb, hg', _⟩
  · rw [h'] at hg; cases hg
  · injection hg with hg
    subst hg
    exact (Array.getElem?_eq_some_iff.1 hg').1
theorem news_new (w : World) (xs : List Value) (t : TypeId) : ∀ j u, xs[j]? = some u → (w.alloc (.cells xs.toArray t)).cell? (Addr.add ⟨w.heap.size, 0, none⟩ j) = some u := by
  intro j u hu
  rw [show Addr.add ⟨w.heap.size, 0, none⟩ j = ⟨w.heap.size, j, none⟩ by unfold Addr.add; split <;> simp_all]
  exact ((Bk.new w t xs).cell j).trans hu
set_option maxHeartbeats 1000000 in
theorem lentF_any (A : Option Addr) (c : Nat) (xs : List Ins) (w : World) (ha : Inss w (fun b => b < w.heap.size) A c xs) (hn : xs.length ≤ 1000000) :
    Calls Tryd.prog 7 #[.slice A xs.length c] w fun e w' => e = .returned (.slice (some ⟨w.heap.size, 0, none⟩) xs.length (xs.length + 12)) ∧
      Bk w' w.heap.size 35 (flatV (xs ++ marksI 12)) ∧ Below w.heap.size w w' := by
  obtain ⟨i0, hi, hz0, hz1, hz2⟩ := info_parts flat_info
  have HA := Lib.hid ha
  clear ha
  go_enter Tryd.func7, Tryd.ntmps7
  go_wp2_with (first
   | (at_make; refine wpList_make_own _ rfl _ _ 22 rfl w.heap.size 35 i0 _ 9 Tryd.underlying22 hi hz0 hz1 _ _ _ (xs.length + 12) rfl rfl (by omega) (by rw [hz2]; omega) (by unfold maxLen; omega) (by omega) ?_; intro w1 hown1 hgrow1; have hb1 := (Below.refl w.heap.size w).grown hgrow1 (Nat.le_refl _) (by simp))
   | (at_builtin; refine wpList_append_fits_any _ rfl (.tmp 9) (.tmp 10) 22 rfl w.heap.size 35 i0 9 Tryd.underlying22 hi hz1 w.heap.size 0 (xs.length + 12) [] rfl hown1 A xs.length c (flatV xs) rfl (by rw [flatV_len]) (by intro e; have := HA.out.1 e; have := HA.out.2.1; omega) (HA.out.below hb1).cells (flatV_one _) (by omega) ?_; intro w2 hown2 hgrow2))
  clear hgrow1 hown1
  have hb2 := hb1.grown hgrow2 hb1.size (by intro k e; injection e with e; omega)
  simp only [Nat.zero_add, List.nil_append] at hown2
  clear hgrow2
  go_loopw [3, 4] (fun v i wr => ∃ k : Nat, k ≤ 12 ∧ i = .int .i64 k ∧ v = .slice (some ⟨w.heap.size, 0, none⟩) (xs.length + k) (xs.length + 12) ∧ wr.ownsRow w.heap.size 35 9 (.slice (some ⟨w.heap.size, 0, none⟩) (xs.length + k) (xs.length + 12)) (xs.length + k) (flatV (xs ++ marksI k)) ∧ Below w.heap.size w wr) (fun _ i _ => 12 - (intOf i).toNat)
  case atStart => exact ⟨0, Nat.zero_le _, rfl, rfl, by simpa [marksI] using hown2, hb2⟩
  case round =>
    clear hb2 hb1 hown2
    obtain ⟨k, hk, rfl, rfl, hown, hb⟩ := hrel
    by_cases hlt : k < 12
    · have hcon := fun W => markFlat_any 1 k W (by omega) (by omega) (by omega) (by omega)
      simp only [insA, insV, markI] at hcon
      have HC := Lib.hid hcon
      clear hcon
      go_wp2_with fail
      refine (HC.out _).mono ?_
      rintro _ w2 ⟨rfl, hb2⟩
      have hgl : w.heap.size < wr.heap.size := owns_lt hown _ rfl
      have hsz := hb2.size
      have hown2 : ∀ o, (w2.alloc o).ownsRow w.heap.size 35 9 (.slice (some ⟨w.heap.size, 0, none⟩) (xs.length + k) (xs.length + 12)) (xs.length + k) (flatV (xs ++ marksI k)) := fun o => owns_keep hown (fun g e => by injection e with e; subst e; exact (Below.heap_alloc w2 o _ (by show w.heap.size < _; omega)).trans (hb2.block _ hgl))
      go_wp2_with (at_builtin; refine wpList_append_fits _ rfl (.tmp 16) (.tmp 19) 22 rfl w.heap.size 35 i0 9 Tryd.underlying22 hi hz1 w.heap.size (xs.length + k) (xs.length + 12) (flatV (xs ++ marksI k)) rfl (hown2 _) ⟨w2.heap.size, 0, none⟩ 1 1 (insV (markI (8000024 + (k : Int)))) rfl rfl (news_new w2 (insV (markI (8000024 + (k : Int)))) 35) (insV_one _) (by omega) ?_)
      intro w3 hown3 hgrow3
      have hb3 := ((hb.trans (hb2.mono hb.size)).alloc (by omega) _).grown hgrow3 (by simp; omega) (by intro k e; injection e with e; omega)
      have HO3 : Hid (w3.ownsRow w.heap.size 35 9 (.slice (some ⟨w.heap.size, 0, none⟩) (xs.length + (k + 1)) (xs.length + 12)) (xs.length + (k + 1)) (flatV (xs ++ marksI (k + 1)))) := Lib.hid (by rw [marksI_succ, ← List.append_assoc, flatV_app, flatV_single]; exact hown3)
      have HB3 := Lib.hid hb3
      clear hown3 hgrow3 hb3 hown2 hb2 hown hb
      go_wp2
      go_roundw
      case rel => exact ⟨k + 1, by omega, by go_num, rfl, HO3.out, HB3.out⟩
      case measure => simp [intOf]; omega
    · obtain rfl : k = 12 := by omega
      go_wp2
      go_ret
      exact ⟨rfl, own_all9 hown (by omega), hb⟩
section
attribute [local go_sem high] eql_ins
theorem insE_same (x : Ins) : insE x x = true := decide_eq_true rfl
set_option linter.unusedSimpArgs false in
set_option maxHeartbeats 2000000 in
theorem keptF_true (g : Nat) (B : Option Addr) (d : Nat) (ys : List Ins) (w : World) (ho : Bk w g 35 (flatV (ys ++ marksI 12))) (hb : Inss w (fun b => b < w.heap.size) B d ys) (hm : ys.length ≤ 1000000) :
    Calls Tryd.prog 12 #[.slice (some ⟨g, 0, none⟩) ys.length (ys.length + 12), .slice B ys.length d] w fun e w' => e = .returned (.bool true) ∧ Below w.heap.size w w' := by
  have HO := Lib.hid ho
  have HB := Lib.hid hb
  clear ho hb
  go_enter Tryd.func12, Tryd.ntmps12
  go_wp2
  go_loopw [6] (fun i wr => ∃ k : Nat, k ≤ ys.length + 12 ∧ i = .int .i64 k ∧ Below w.heap.size w wr) (fun i _ => ys.length + 12 - (intOf i).toNat)
  case atStart => exact ⟨0, Nat.zero_le _, rfl, Below.refl _ _⟩
  case round =>
    obtain ⟨k, hk, rfl, hbr⟩ := hrel
    have hbs := hbr.size
    by_cases hlt : k < ys.length + 12
    · have hgb := HO.out.below hbr HO.out.lt
      have hx : ∃ x, Hid ((ys ++ marksI 12)[k]? = some x) := ⟨_, List.getElem?_eq_getElem (by simp; omega)⟩
      obtain ⟨x, hx⟩ := hx
      have hcw : ∀ j, j < 9 → wr.cell? ((Addr.add ⟨g, 0, none⟩ (k * 9)).add j) = (insV x)[j]? := fun j hj => by
        rw [add_add', show Addr.add ⟨g, 0, none⟩ (k * 9 + j) = ⟨g, k * 9 + j, none⟩ by unfold Addr.add; split <;> simp_all, hgb.cell]
        exact flatV_at _ _ _ hx.out j hj
      obtain ⟨e0, e1, e2, e3, e4, e5, e6, e7, e8⟩ := flat9 hcw
      simp only [add_at] at e0 e1 e2 e3 e4 e5 e6 e7 e8
      have HBR := Lib.hid hbr
      have hgl : g < wr.heap.size := hgb.lt
      clear hcw hgb hbr
      by_cases hl : k < ys.length
      · obtain ⟨b, y, rfl, hbl, hy, hc⟩ := (HB.out.below HBR.out).at_ hl
        have hxy : x = y := by have h1 := hx.out; rw [List.getElem?_append_left hl, hy.out] at h1; injection h1 with h1; exact h1.symm
        subst hxy
        obtain ⟨f0, f1, f2, f3, f4, f5, f6, f7, f8⟩ := flat9 hc
        have d1 : decide (k < ys.length) = true := decide_eq_true hl
        have d2 : decide (ys.length ≤ k) = false := decide_eq_false (by omega)
        have q := insE_same ⟨x.op, x.what, x.nar, x.d, x.a, x.b, x.n, x.size, x.to⟩
        clear hc
        go_wp2
        go_quiet (fail)
        go_wp2
        go_roundw
        case rel => exact ⟨k + 1, by omega, by go_num, HBR.out.trans ⟨rfl, rfl, rfl, Nat.le_refl _, fun _ _ => rfl⟩⟩
        case measure => simp [intOf]; omega
      · have d1 : decide (k < ys.length) = false := decide_eq_false hl
        have d2 : decide (ys.length ≤ k) = true := decide_eq_true (by omega)
        have hxm : x = markI (8000024 + ((k : Int) - ys.length)) := by
          have h1 := hx.out
          rw [List.getElem?_append_right (by omega)] at h1
          simp [marksI, show k - ys.length < 12 by omega, show (((k - ys.length : Nat) : Int)) = (k : Int) - ys.length by omega] at h1
          exact h1.symm
        have hcon := fun W => markFlat_any 1 ((k : Int) - ys.length) W (by omega) (by omega) (by omega) (by omega)
        simp only [insA, insV, show (1000003 * ((1 : Int) + 7) + ((k : Int) - ys.length)) = 8000024 + ((k : Int) - ys.length) by omega, ← hxm] at hcon
        have HC := Lib.hid hcon
        have q := insE_same ⟨x.op, x.what, x.nar, x.d, x.a, x.b, x.n, x.size, x.to⟩
        have HX := Lib.hid hxm
        have i1 : (0 : Int) ≤ (k : Int) := by omega
        have i2 : (k : Int) < (ys.length : Int) + 12 := by omega
        have i3 : ((k : Int)).toNat = k := by omega
        have i4 : IntKind.i64.wrap ((k : Int) - ys.length) = (k : Int) - ys.length := IntWalk.i64_in _ (by omega)
        clear hcon hxm
        go_wp2
        refine wp_region_held_drew (S := fun w' => w'.cell? ⟨g, k * 9, none⟩ = some (.int .u8 x.op) ∧ w'.cell? ⟨g, k * 9 + 1, none⟩ = some (.int .u8 x.what) ∧ w'.cell? ⟨g, k * 9 + 2, none⟩ = some (.bool x.nar) ∧ w'.cell? ⟨g, k * 9 + 3, none⟩ = some (.int .i64 x.d) ∧ w'.cell? ⟨g, k * 9 + 4, none⟩ = some (.int .i64 x.a) ∧ w'.cell? ⟨g, k * 9 + 5, none⟩ = some (.int .i64 x.b) ∧ w'.cell? ⟨g, k * 9 + 6, none⟩ = some (.int .u64 x.n) ∧ w'.cell? ⟨g, k * 9 + 7, none⟩ = some (.int .i64 x.size) ∧ w'.cell? ⟨g, k * 9 + 8, none⟩ = some (.int .i64 x.to)) (by kernel_rfl) ⟨e0, e1, e2, e3, e4, e5, e6, e7, e8⟩ (fun hS => ?_)
        refine wpAnyH_take (i := 0) (v := ?_) rfl (by kernel_rfl) (by kernel_rfl) (by kernel_rfl) (fun _ _ _ h => h) (Or.inl ⟨by rfl, ?_⟩) hS ?_
        rotate_left 1
        · intro w' hSw
          go_simp <;> with_reducible rfl
        try simp only [List.getElem_toArray, List.getElem_cons_zero, List.getElem_cons_succ, Act.put, List.setIfInBounds_toArray, List.set_cons_zero, List.set_cons_succ]
        refine wpAnyH_take (i := 1) (v := ?_) rfl (by kernel_rfl) (by kernel_rfl) (by kernel_rfl) (fun _ _ _ h => h) (Or.inl ⟨by rfl, ?_⟩) hS ?_
        rotate_left 1
        · intro w' hSw
          go_simp <;> with_reducible rfl
        try simp only [List.getElem_toArray, List.getElem_cons_zero, List.getElem_cons_succ, Act.put, List.setIfInBounds_toArray, List.set_cons_zero, List.set_cons_succ]
        refine wpAnyH_take (i := 2) (v := ?_) rfl (by kernel_rfl) (by kernel_rfl) (by kernel_rfl) (fun _ _ _ h => h) (Or.inl ⟨by rfl, ?_⟩) hS ?_
        rotate_left 1
        · intro w' hSw
          go_simp <;> with_reducible rfl
        try simp only [List.getElem_toArray, List.getElem_cons_zero, List.getElem_cons_succ, Act.put, List.setIfInBounds_toArray, List.set_cons_zero, List.set_cons_succ]
        refine wpAnyH_take (i := 3) (v := ?_) rfl (by kernel_rfl) (by kernel_rfl) (by kernel_rfl) (fun _ _ _ h => h) (Or.inl ⟨by rfl, ?_⟩) hS ?_
        rotate_left 1
        · intro w' hSw
          go_simp <;> with_reducible rfl
        try simp only [List.getElem_toArray, List.getElem_cons_zero, List.getElem_cons_succ, Act.put, List.setIfInBounds_toArray, List.set_cons_zero, List.set_cons_succ]
        refine wpAnyH_take (i := 4) (v := ?_) rfl (by kernel_rfl) (by kernel_rfl) (by kernel_rfl) (fun _ _ _ h => h) (Or.inl ⟨by rfl, ?_⟩) hS ?_
        rotate_left 1
        · intro w' hSw
          go_simp <;> with_reducible rfl
        try simp only [List.getElem_toArray, List.getElem_cons_zero, List.getElem_cons_succ, Act.put, List.setIfInBounds_toArray, List.set_cons_zero, List.set_cons_succ]
        refine wpAnyH_take (i := 5) (v := undef) rfl (by kernel_rfl) (by kernel_rfl) (by kernel_rfl) (fun _ _ _ h => h) (Or.inr ⟨by go_simp, rfl⟩) hS ?_
        try simp only [List.getElem_toArray, List.getElem_cons_zero, List.getElem_cons_succ, Act.put, List.setIfInBounds_toArray, List.set_cons_zero, List.set_cons_succ]
        refine wpAnyH_take (i := 6) (v := undef) rfl (by kernel_rfl) (by kernel_rfl) (by kernel_rfl) (fun _ _ _ h => h) (Or.inr ⟨by go_simp, rfl⟩) hS ?_
        try simp only [List.getElem_toArray, List.getElem_cons_zero, List.getElem_cons_succ, Act.put, List.setIfInBounds_toArray, List.set_cons_zero, List.set_cons_succ]
        refine wpAnyH_take (i := 7) (v := undef) rfl (by kernel_rfl) (by kernel_rfl) (by kernel_rfl) (fun _ _ _ h => h) (Or.inr ⟨by go_simp, rfl⟩) hS ?_
        try simp only [List.getElem_toArray, List.getElem_cons_zero, List.getElem_cons_succ, Act.put, List.setIfInBounds_toArray, List.set_cons_zero, List.set_cons_succ]
        refine wpAnyH_take (i := 8) (v := undef) rfl (by kernel_rfl) (by kernel_rfl) (by kernel_rfl) (fun _ _ _ h => h) (Or.inr ⟨by go_simp, rfl⟩) hS ?_
        try simp only [List.getElem_toArray, List.getElem_cons_zero, List.getElem_cons_succ, Act.put, List.setIfInBounds_toArray, List.set_cons_zero, List.set_cons_succ]
        refine wpAnyH_take (i := 9) (v := undef) rfl (by kernel_rfl) (by kernel_rfl) (by kernel_rfl) (fun _ _ _ h => h) (Or.inr ⟨by go_simp, rfl⟩) hS ?_
        try simp only [List.getElem_toArray, List.getElem_cons_zero, List.getElem_cons_succ, Act.put, List.setIfInBounds_toArray, List.set_cons_zero, List.set_cons_succ]
        refine wpAnyH_take (i := 10) (v := undef) rfl (by kernel_rfl) (by kernel_rfl) (by kernel_rfl) (fun _ _ _ h => h) (Or.inr ⟨by go_simp, rfl⟩) hS ?_
        try simp only [List.getElem_toArray, List.getElem_cons_zero, List.getElem_cons_succ, Act.put, List.setIfInBounds_toArray, List.set_cons_zero, List.set_cons_succ]
        refine wpAnyH_take (i := 11) (v := undef) rfl (by kernel_rfl) (by kernel_rfl) (by kernel_rfl) (fun _ _ _ h => h) (Or.inr ⟨by go_simp, rfl⟩) hS ?_
        try simp only [List.getElem_toArray, List.getElem_cons_zero, List.getElem_cons_succ, Act.put, List.setIfInBounds_toArray, List.set_cons_zero, List.set_cons_succ]
        refine wpAnyH_take (i := 12) (v := undef) rfl (by kernel_rfl) (by kernel_rfl) (by kernel_rfl) (fun _ _ _ h => h) (Or.inr ⟨by go_simp, rfl⟩) hS ?_
        try simp only [List.getElem_toArray, List.getElem_cons_zero, List.getElem_cons_succ, Act.put, List.setIfInBounds_toArray, List.set_cons_zero, List.set_cons_succ]
        refine wpAnyH_take (i := 13) (v := undef) rfl (by kernel_rfl) (by kernel_rfl) (by kernel_rfl) (fun _ _ _ h => h) (Or.inr ⟨by go_simp, rfl⟩) hS ?_
        try simp only [List.getElem_toArray, List.getElem_cons_zero, List.getElem_cons_succ, Act.put, List.setIfInBounds_toArray, List.set_cons_zero, List.set_cons_succ]
        refine wpAnyH_take (i := 14) (v := undef) rfl (by kernel_rfl) (by kernel_rfl) (by kernel_rfl) (fun _ _ _ h => h) (Or.inr ⟨by go_simp, rfl⟩) hS ?_
        try simp only [List.getElem_toArray, List.getElem_cons_zero, List.getElem_cons_succ, Act.put, List.setIfInBounds_toArray, List.set_cons_zero, List.set_cons_succ]
        refine wpAnyH_take (i := 15) (v := ?_) rfl (by kernel_rfl) (by kernel_rfl) (by kernel_rfl) (fun _ _ _ h => h) (Or.inl ⟨by rfl, ?_⟩) hS ?_
        rotate_left 1
        · intro w' hSw
          go_simp <;> with_reducible rfl
        try simp only [List.getElem_toArray, List.getElem_cons_zero, List.getElem_cons_succ, Act.put, List.setIfInBounds_toArray, List.set_cons_zero, List.set_cons_succ]
        refine wpAnyH_take (i := 16) (v := ?_) rfl (by kernel_rfl) (by kernel_rfl) (by kernel_rfl) (fun _ _ _ h => h) (Or.inl ⟨by rfl, ?_⟩) hS ?_
        rotate_left 1
        · intro w' hSw
          go_simp <;> with_reducible rfl
        try simp only [List.getElem_toArray, List.getElem_cons_zero, List.getElem_cons_succ, Act.put, List.setIfInBounds_toArray, List.set_cons_zero, List.set_cons_succ]
        refine wpAnyH_take (i := 17) (v := ?_) rfl (by kernel_rfl) (by kernel_rfl) (by kernel_rfl) (fun _ _ _ h => h) (Or.inl ⟨by go_simp, ?_⟩) hS ?_
        rotate_left 1
        · intro w' hSw
          go_simp <;> with_reducible rfl
        try simp only [List.getElem_toArray, List.getElem_cons_zero, List.getElem_cons_succ, Act.put, List.setIfInBounds_toArray, List.set_cons_zero, List.set_cons_succ]
        refine wpAnyH_take (i := 18) (v := ?_) rfl (by kernel_rfl) (by kernel_rfl) (by kernel_rfl) (fun _ _ _ h => h) (Or.inl ⟨by go_simp, ?_⟩) hS ?_
        rotate_left 1
        · intro w' hSw
          go_simp <;> with_reducible rfl
        try simp only [List.getElem_toArray, List.getElem_cons_zero, List.getElem_cons_succ, Act.put, List.setIfInBounds_toArray, List.set_cons_zero, List.set_cons_succ]
        refine wpAnyH_take (i := 19) (v := ?_) rfl (by kernel_rfl) (by kernel_rfl) (by kernel_rfl) (fun _ _ _ h => h) (Or.inl ⟨by go_simp, ?_⟩) hS ?_
        rotate_left 1
        · intro w' hSw
          go_simp <;> with_reducible rfl
        try simp only [List.getElem_toArray, List.getElem_cons_zero, List.getElem_cons_succ, Act.put, List.setIfInBounds_toArray, List.set_cons_zero, List.set_cons_succ]
        refine wpAnyH_take (i := 20) (v := ?_) rfl (by kernel_rfl) (by kernel_rfl) (by kernel_rfl) (fun _ _ _ h => h) (Or.inl ⟨by go_simp, ?_⟩) hS ?_
        rotate_left 1
        · intro w' hSw
          go_simp <;> with_reducible rfl
        try simp only [List.getElem_toArray, List.getElem_cons_zero, List.getElem_cons_succ, Act.put, List.setIfInBounds_toArray, List.set_cons_zero, List.set_cons_succ]
        refine wpAnyH_take (i := 21) (v := ?_) rfl (by kernel_rfl) (by kernel_rfl) (by kernel_rfl) (fun _ _ _ h => h) (Or.inl ⟨by go_simp, ?_⟩) hS ?_
        rotate_left 1
        · intro w' hSw
          go_simp <;> with_reducible rfl
        try simp only [List.getElem_toArray, List.getElem_cons_zero, List.getElem_cons_succ, Act.put, List.setIfInBounds_toArray, List.set_cons_zero, List.set_cons_succ]
        refine wpAnyH_take (i := 22) (v := ?_) rfl (by kernel_rfl) (by kernel_rfl) (by kernel_rfl) (fun _ _ _ h => h) (Or.inl ⟨by go_simp, ?_⟩) hS ?_
        rotate_left 1
        · intro w' hSw
          go_simp <;> with_reducible rfl
        try simp only [List.getElem_toArray, List.getElem_cons_zero, List.getElem_cons_succ, Act.put, List.setIfInBounds_toArray, List.set_cons_zero, List.set_cons_succ]
        refine wpAnyH_take (i := 23) (v := ?_) rfl (by kernel_rfl) (by kernel_rfl) (by kernel_rfl) (fun _ _ _ h => h) (Or.inl ⟨by go_simp, ?_⟩) hS ?_
        rotate_left 1
        · intro w' hSw
          go_simp <;> with_reducible rfl
        try simp only [List.getElem_toArray, List.getElem_cons_zero, List.getElem_cons_succ, Act.put, List.setIfInBounds_toArray, List.set_cons_zero, List.set_cons_succ]
        refine wpAnyH_take (i := 24) (v := ?_) rfl (by kernel_rfl) (by kernel_rfl) (by kernel_rfl) (fun _ _ _ h => h) (Or.inl ⟨by go_simp, ?_⟩) hS ?_
        rotate_left 1
        · intro w' hSw
          go_simp <;> with_reducible rfl
        try simp only [List.getElem_toArray, List.getElem_cons_zero, List.getElem_cons_succ, Act.put, List.setIfInBounds_toArray, List.set_cons_zero, List.set_cons_succ]
        refine wpAnyH_take (i := 25) (v := ?_) rfl (by kernel_rfl) (by kernel_rfl) (by kernel_rfl) (fun _ _ _ h => h) (Or.inl ⟨by go_simp, ?_⟩) hS ?_
        rotate_left 1
        · intro w' hSw
          go_simp <;> with_reducible rfl
        try simp only [List.getElem_toArray, List.getElem_cons_zero, List.getElem_cons_succ, Act.put, List.setIfInBounds_toArray, List.set_cons_zero, List.set_cons_succ]
        refine wpAnyH_take (i := 26) (v := ?_) rfl (by kernel_rfl) (by kernel_rfl) (by kernel_rfl) (fun _ _ _ h => h) (Or.inl ⟨by go_simp, ?_⟩) hS ?_
        rotate_left 1
        · intro w' hSw
          go_simp <;> with_reducible rfl
        try simp only [List.getElem_toArray, List.getElem_cons_zero, List.getElem_cons_succ, Act.put, List.setIfInBounds_toArray, List.set_cons_zero, List.set_cons_succ]
        refine wpAnyH_take (i := 27) (v := ?_) rfl (by kernel_rfl) (by kernel_rfl) (by kernel_rfl) (fun _ _ _ h => h) (Or.inl ⟨by go_simp, ?_⟩) hS ?_
        rotate_left 1
        · intro w' hSw
          go_simp <;> with_reducible rfl
        try simp only [List.getElem_toArray, List.getElem_cons_zero, List.getElem_cons_succ, Act.put, List.setIfInBounds_toArray, List.set_cons_zero, List.set_cons_succ]
        refine wpAnyH_take (i := 28) (v := ?_) rfl (by kernel_rfl) (by kernel_rfl) (by kernel_rfl) (fun _ _ _ h => h) (Or.inl ⟨by go_simp, ?_⟩) hS ?_
        rotate_left 1
        · intro w' hSw
          go_simp <;> with_reducible rfl
        try simp only [List.getElem_toArray, List.getElem_cons_zero, List.getElem_cons_succ, Act.put, List.setIfInBounds_toArray, List.set_cons_zero, List.set_cons_succ]
        refine wpAnyH_take (i := 29) (v := ?_) rfl (by kernel_rfl) (by kernel_rfl) (by kernel_rfl) (fun _ _ _ h => h) (Or.inl ⟨by go_simp, ?_⟩) hS ?_
        rotate_left 1
        · intro w' hSw
          go_simp <;> with_reducible rfl
        try simp only [List.getElem_toArray, List.getElem_cons_zero, List.getElem_cons_succ, Act.put, List.setIfInBounds_toArray, List.set_cons_zero, List.set_cons_succ]
        refine wpAnyH_ready (rs := [30]) (by kernel_rfl) (by simp) (AllReadyH.cons rfl (fun K hK => ?_) AllReadyH.nil)
        go_simp
        refine (HC.out _).mono ?_
        rintro _ w2 ⟨rfl, hb2⟩
        have hS2 : w2.cell? ⟨g, k * 9, none⟩ = some (.int .u8 x.op) ∧ w2.cell? ⟨g, k * 9 + 1, none⟩ = some (.int .u8 x.what) ∧ w2.cell? ⟨g, k * 9 + 2, none⟩ = some (.bool x.nar) ∧ w2.cell? ⟨g, k * 9 + 3, none⟩ = some (.int .i64 x.d) ∧ w2.cell? ⟨g, k * 9 + 4, none⟩ = some (.int .i64 x.a) ∧ w2.cell? ⟨g, k * 9 + 5, none⟩ = some (.int .i64 x.b) ∧ w2.cell? ⟨g, k * 9 + 6, none⟩ = some (.int .u64 x.n) ∧ w2.cell? ⟨g, k * 9 + 7, none⟩ = some (.int .i64 x.size) ∧ w2.cell? ⟨g, k * 9 + 8, none⟩ = some (.int .i64 x.to) := ⟨(hb2.cell (p := ⟨g, k * 9, none⟩) hgl).trans e0, (hb2.cell (p := ⟨g, k * 9 + 1, none⟩) hgl).trans e1, (hb2.cell (p := ⟨g, k * 9 + 2, none⟩) hgl).trans e2, (hb2.cell (p := ⟨g, k * 9 + 3, none⟩) hgl).trans e3, (hb2.cell (p := ⟨g, k * 9 + 4, none⟩) hgl).trans e4, (hb2.cell (p := ⟨g, k * 9 + 5, none⟩) hgl).trans e5, (hb2.cell (p := ⟨g, k * 9 + 6, none⟩) hgl).trans e6, (hb2.cell (p := ⟨g, k * 9 + 7, none⟩) hgl).trans e7, (hb2.cell (p := ⟨g, k * 9 + 8, none⟩) hgl).trans e8⟩
        go_simp
        refine hK _ _ hS2 (fun hS => ?_)
        clear hK K
        try simp only [List.getElem_toArray, List.getElem_cons_zero, List.getElem_cons_succ, Act.put, List.setIfInBounds_toArray, List.set_cons_zero, List.set_cons_succ]
        refine wpAnyH_take (i := 31) (v := ?_) rfl (by kernel_rfl) (by kernel_rfl) (by kernel_rfl) (fun _ _ _ h => h) (Or.inl ⟨by go_simp, ?_⟩) hS ?_
        rotate_left 1
        · intro w' hSw
          go_simp <;> with_reducible rfl
        try simp only [List.getElem_toArray, List.getElem_cons_zero, List.getElem_cons_succ, Act.put, List.setIfInBounds_toArray, List.set_cons_zero, List.set_cons_succ]
        refine wpAnyH_take (i := 32) (v := ?_) rfl (by kernel_rfl) (by kernel_rfl) (by kernel_rfl) (fun _ _ _ h => h) (Or.inl ⟨by go_simp, ?_⟩) hS ?_
        rotate_left 1
        · intro w' hSw
          go_simp <;> with_reducible rfl
        try simp only [List.getElem_toArray, List.getElem_cons_zero, List.getElem_cons_succ, Act.put, List.setIfInBounds_toArray, List.set_cons_zero, List.set_cons_succ]
        refine wpAnyH_take (i := 33) (v := ?_) rfl (by kernel_rfl) (by kernel_rfl) (by kernel_rfl) (fun _ _ _ h => h) (Or.inl ⟨by go_simp, ?_⟩) hS ?_
        rotate_left 1
        · intro w' hSw
          go_simp <;> with_reducible rfl
        try simp only [List.getElem_toArray, List.getElem_cons_zero, List.getElem_cons_succ, Act.put, List.setIfInBounds_toArray, List.set_cons_zero, List.set_cons_succ]
        refine wpAnyH_take (i := 34) (v := ?_) rfl (by kernel_rfl) (by kernel_rfl) (by kernel_rfl) (fun _ _ _ h => h) (Or.inl ⟨by rfl, ?_⟩) hS ?_
        rotate_left 1
        · intro w' hSw
          go_simp <;> with_reducible rfl
        try simp only [List.getElem_toArray, List.getElem_cons_zero, List.getElem_cons_succ, Act.put, List.setIfInBounds_toArray, List.set_cons_zero, List.set_cons_succ]
        refine wpAnyH_done (by kernel_rfl) ?_ _
        have HB2 := Lib.hid hb2
        clear hb2 hS2 hS
        go_wp2
        go_roundw
        case rel => exact ⟨k + 1, by omega, by go_num, HBR.out.trans (((Below.refl _ _).drew.trans HB2.out).mono hbs)⟩
        case measure => simp [intOf]; omega
    · obtain rfl : k = ys.length + 12 := by omega
      go_wp2
      go_ret
      exact ⟨rfl, hbr⟩
end
section
open Go.ChangeShapes Go.WideShapes Go.Deep
variable {H : Type} {enc : TypeId × Value → H}
theorem cells40d : Tryd.prog.cellsOf 35 = 9 := by kernel_rfl
theorem cells37d : Tryd.prog.cellsOf 31 = 1 := by kernel_rfl
theorem cells38d : Tryd.prog.cellsOf 32 = 1 := by kernel_rfl
theorem cells4d : Tryd.prog.cellsOf 4 = 1 := by kernel_rfl
theorem cells3d : Tryd.prog.cellsOf 3 = 1 := by kernel_rfl
theorem cells28d : Tryd.prog.cellsOf 33 = 1 := by kernel_rfl
set_option maxRecDepth 100000 in
/-- An instruction that came in, by its cells. -/
theorem came_flat {W : World} {fuel : Nat} {cs : List Value} {x : DataW H × List MemPlace} (h : DataW.trod enc Tryd.prog W 0 (fun _ => true) true fuel 35 cs = some x) :
    ∃ e, cs = insV e ∧ InsOk e := by
  obtain ⟨xs, n, rfl, hx, hcl, hxl, hf⟩ := DataW.trod_struct Tryd.underlying35 h
  have hc : cs.length = 9 := hcl.trans (by kernel_rfl)
  match cs, hc with
  | [c0, c1, c2, c3, c4, c5, c6, c7, c8], _ =>
    match xs, hxl with
    | [y0, y1, y2, y3, y4, y5, y6, y7, y8], _ =>
      have h0 := hf 0 _ rfl
      have h1 := hf 1 _ rfl
      have h2 := hf 2 _ rfl
      have h3 := hf 3 _ rfl
      have h4 := hf 4 _ rfl
      have h5 := hf 5 _ rfl
      have h6 := hf 6 _ rfl
      have h7 := hf 7 _ rfl
      have h8 := hf 8 _ rfl
      simp [cells37d, cells38d, cells4d, cells3d, cells28d] at h0 h1 h2 h3 h4 h5 h6 h7 h8
      obtain ⟨n0, e0, _, _⟩ := DataW.trod_int Tryd.underlying31 h0
      obtain ⟨n1, e1, _, w1⟩ := DataW.trod_int Tryd.underlying32 h1
      obtain ⟨n2, e2, _⟩ := DataW.trod_bool Tryd.underlying4 h2
      obtain ⟨n3, e3, _⟩ := DataW.trod_int Tryd.underlying3 h3
      obtain ⟨n4, e4, _⟩ := DataW.trod_int Tryd.underlying3 h4
      obtain ⟨n5, e5, _⟩ := DataW.trod_int Tryd.underlying3 h5
      obtain ⟨n6, e6, _, w6⟩ := DataW.trod_int Tryd.underlying33 h6
      obtain ⟨n7, e7, _⟩ := DataW.trod_int Tryd.underlying3 h7
      obtain ⟨n8, e8, _⟩ := DataW.trod_int Tryd.underlying3 h8
      injection e0 with e0
      injection e1 with e1
      injection e2 with e2
      injection e3 with e3
      injection e4 with e4
      injection e5 with e5
      injection e6 with e6
      injection e7 with e7
      injection e8 with e8
      refine ⟨⟨n0, n1, n2, n3, n4, n5, n6, n7, n8⟩, by rw [e0, e1, e2, e3, e4, e5, e6, e7, e8]; rfl, ?_⟩
      simp [Lit.wf] at w1 w6
      have a1 : (0 : Int) ≤ n1 := w1.1
      have a2 : (0 : Int) ≤ n6 := w6.1
      have a3 : n6 ≤ 18446744073709551615 := w6.2
      exact ⟨a1, a2, a3⟩
/-- Instructions that came in. -/
theorem came_flats {W : World} {fuel : Nat} {v : Value} {x : DataW H × List MemPlace} (h : DataW.trod enc Tryd.prog W 0 (fun _ => true) true fuel 22 [v] = some x) :
    ∃ A c es, v = .slice A (List.length es) c ∧ Inss W (fun b => b < W.heap.size) A c es ∧ ∀ f ∈ es, InsOk f := by
  rcases open_slice Tryd.underlying22 h with ⟨hcs, _⟩ | ⟨a, len, cap, m, n, D, Pl, hcs, hb, hl, hm, hmm, hx, hi⟩
  · injection hcs with hcs
    subst hcs
    exact ⟨none, 0, [], rfl, inss_nil W, fun f hf => by cases hf⟩
  · injection hcs with hcs
    subst hcs
    simp at hmm
    subst hmm
    rw [cells40d] at hi
    have each : ∀ i, i < len → ∃ e, (∀ j, j < 9 → W.cell? ((a.add (i * 9)).add j) = (insV e)[j]?) ∧ InsOk e := by
      intro i hil
      obtain ⟨cs', hc, ht⟩ := hi i (by omega)
      obtain ⟨_, hcl, hat⟩ := World.cells?_some hc
      obtain ⟨e, rfl, hok⟩ := came_flat ht
      exact ⟨e, fun j hj => hat j hj, hok⟩
    obtain ⟨f, hf⟩ : ∃ f : Nat → Ins, ∀ i, i < len → (∀ j, j < 9 → W.cell? ((a.add (i * 9)).add j) = (insV (f i))[j]?) ∧ InsOk (f i) := by
      refine ⟨fun i => if hi : i < len then Classical.choose (each i hi) else default, fun i hi => ?_⟩
      simp only [dif_pos hi]
      exact Classical.choose_spec (each i hi)
    have at_ : ∀ i x, ((List.range len).map f)[i]? = some x → i < len ∧ x = f i := by
      intro i x hx
      simp only [List.getElem?_map] at hx
      by_cases hil : i < len
      · simp [hil] at hx
        exact ⟨hil, hx.symm⟩
      · simp [hil] at hx
    refine ⟨some a, m, (List.range len).map f, by simp, ⟨fun e => (by cases e), by simpa using hl, hm, fun hne => ⟨a, rfl, ?_, ?_⟩⟩, ?_⟩
    · have hl0 : 0 < len := by
        cases len with
        | zero => simp at hne
        | succ n => omega
      have h3 := (hf 0 hl0).1 0 (by omega)
      have h4 := World.block_lt_of_cell? W _ (h3.trans (by rfl : (insV (f 0))[0]? = some (.int .u8 (f 0).op)))
      rw [add_blk, add_blk] at h4
      exact h4
    · intro i x hx j hj
      obtain ⟨hil, rfl⟩ := at_ i x hx
      exact (hf i hil).1 j hj
    · intro x hx
      obtain ⟨i, hi'⟩ := List.mem_iff_getElem?.1 hx
      obtain ⟨hil, rfl⟩ := at_ i x hi'
      exact (hf i hil).2
end
end Go.Proofs.YtdhfdlelnkoomaaDoor
