/- RunNumbers: its walk. -/
import Derived.Deep.RegionHeld3
import Derived.Deep.DeepCutAuto
import Derived.Test.YtbfegghkipoppaaZ17
namespace Go.Proofs.Ytbfegghkipoppaa
open Go.RowKit Go.Shelf
set_option linter.unusedVariables false
set_option maxRecDepth 100000
section
attribute [local go_sem high] eql_out
set_option maxHeartbeats 1000000 in
theorem doesF_any (A : Option Addr) (c : Nat) (xs : List Ins) (P : Option Addr) (d : Nat) (pk : List Int) (w : World) (hI : Inss w (fun b => b < w.heap.size) A c xs) (hio : ∀ f ∈ xs, InsOk f) (hP : Rd w w.heap.size P d (u8s pk)) (hpb : Bytes pk) (hpl : pk.length ≤ 1000000) :
    Calls Try.prog 13 #[.slice P pk.length d, .slice A xs.length c] w fun e w' => e = .returned (.bool true) ∧ Below w.heap.size w w' := by
  have HI := Lib.hid hI
  have HP := Lib.hid hP
  have HIO := Lib.hid hio
  have HPB := Lib.hid hpb
  clear hI hP hio hpb
  go_enter Try.func13, Try.ntmps13
  go_wp2_with fail
  refine (doR_any A c xs P d pk w HI.out HP.out HPB.out hpl HIO.out).mono ?_
  rintro _ w1 ⟨rfl, hb1⟩
  have HI1 := Lib.hid (HI.out.below hb1)
  have HP1 := Lib.hid ((HP.out.below hb1).mono hb1.size)
  have HB1 := Lib.hid hb1
  clear hb1
  go_wp2_with fail
  refine (rdoR_any A c xs P d pk w1 HI1.out HP1.out HPB.out hpl HIO.out).mono ?_
  rintro _ w2 ⟨rfl, hb2⟩
  have HB2 := Lib.hid hb2
  clear hb2
  have q := outE_same ⟨(doP pk xs).err, (doP pk xs).pc, (doP pk xs).v, (doP pk xs).steps⟩
  simp only [outA, outV]
  go_wp2_with fail
  go_ret
  exact ⟨rfl, HB1.out.trans (HB2.out.mono HB1.out.size)⟩
end
def pkN : List Int := [129, 2, 3, 4, 5, 6, 7, 8, 9]
def numsN : List Int := [0, 1, 2, 4, 5, 7, 8, 9, 10, 31, 32, 63, 64, 511, 512, 513, 2147483647, 2147483648, 4294967296, 9223372036854775807, 9223372036854775808, 18446744073709551103, 18446744073709551104, 18446744073709551105, 18446744073709551607, 18446744073709551608, 18446744073709551609, 18446744073709551612, 18446744073709551614, 18446744073709551615]
def sizesN : List Int := [1, 2, 4, 8]
theorem numsN_at {k : Nat} (h : k < 30) : ∃ x, Hid (numsN[k]? = some x) ∧ 0 ≤ x ∧ x ≤ 18446744073709551615 := by
  have h1 : k < numsN.length := h
  refine ⟨numsN[k], List.getElem?_eq_getElem h1, ?_⟩
  have : ∀ x ∈ numsN, 0 ≤ x ∧ x ≤ 18446744073709551615 := by decide
  exact this _ (List.getElem_mem _)
theorem sizesN_at {k : Nat} (h : k < 4) : ∃ x, Hid (sizesN[k]? = some x) := ⟨sizesN[k]'h, List.getElem?_eq_getElem _⟩
def setI (d n : Int) : Ins := { op := 1, what := 0, nar := false, d := d, a := 0, b := 0, n := n, size := 0, «to» := 0 }
theorem okS (d n : Int) (h0 : 0 ≤ n) (h1 : n ≤ 18446744073709551615) : InsOk (setI d n) := ⟨Int.le_refl 0, h0, h1⟩
def ldI (n s : Int) : Ins := { op := 4, what := 0, nar := false, d := 4, a := 1, b := 0, n := n, size := s, «to» := 0 }
def wrI (n s : Int) : Ins := { op := 6, what := 0, nar := false, d := 0, a := 1, b := 3, n := n, size := s, «to» := 0 }
def rdI (n s : Int) : Ins := { op := 5, what := 0, nar := false, d := 4, a := 1, b := 0, n := n, size := s, «to» := 0 }
theorem okld (n s : Int) (h0 : 0 ≤ n) (h1 : n ≤ 18446744073709551615) : InsOk (ldI n s) := ⟨Int.le_refl 0, h0, h1⟩
theorem okwr (n s : Int) (h0 : 0 ≤ n) (h1 : n ≤ 18446744073709551615) : InsOk (wrI n s) := ⟨Int.le_refl 0, h0, h1⟩
theorem okrd (n s : Int) (h0 : 0 ≤ n) (h1 : n ≤ 18446744073709551615) : InsOk (rdI n s) := ⟨Int.le_refl 0, h0, h1⟩
theorem ins9 {w : World} {g : Nat} {x : Ins} (h : Bk w g 40 (insV x)) :
    w.cell? ⟨g, 0, none⟩ = some (.int .u8 x.op) ∧ w.cell? ⟨g, 1, none⟩ = some (.int .u8 x.what) ∧ w.cell? ⟨g, 2, none⟩ = some (.bool x.nar) ∧ w.cell? ⟨g, 3, none⟩ = some (.int .i64 x.d) ∧ w.cell? ⟨g, 4, none⟩ = some (.int .i64 x.a) ∧
    w.cell? ⟨g, 5, none⟩ = some (.int .i64 x.b) ∧ w.cell? ⟨g, 6, none⟩ = some (.int .u64 x.n) ∧ w.cell? ⟨g, 7, none⟩ = some (.int .i64 x.size) ∧ w.cell? ⟨g, 8, none⟩ = some (.int .i64 x.to) :=
  ⟨h.cell 0, h.cell 1, h.cell 2, h.cell 3, h.cell 4, h.cell 5, h.cell 6, h.cell 7, h.cell 8⟩
/-- The packet, the numbers and the sizes lie from block G on. -/
structure N0 (w : World) (G : Nat) : Prop where
  p : Bk w G 5 (u8s pkN)
  n : Bk w (G + 1) 28 (numsN.map (Value.int .u64))
  s : Bk w (G + 1 + 1) 3 (sizesN.map (Value.int .i64))
theorem N0.below {w w' : World} {G : Nat} (h : N0 w G) (hb : Below w.heap.size w w') : N0 w' G := ⟨h.p.below hb h.p.lt, h.n.below hb h.n.lt, h.s.below hb h.s.lt⟩
theorem N0.num {w : World} {G k : Nat} {x : Int} (h : N0 w G) (hx : numsN[k]? = some x) : w.cell? ⟨G + 1, k, none⟩ = some (.int .u64 x) := by rw [h.n.cell, List.getElem?_map, hx]; rfl
theorem N0.size {w : World} {G k : Nat} {x : Int} (h : N0 w G) (hx : sizesN[k]? = some x) : w.cell? ⟨G + 1 + 1, k, none⟩ = some (.int .i64 x) := by rw [h.s.cell, List.getElem?_map, hx]; rfl
theorem cut_ab (w : World) (x y : Int) : ∃ g6 g7 : Nat, Value.pointer (some ⟨w.heap.size, 0, none⟩) = .pointer (some ⟨g6, 0, none⟩) ∧ Value.pointer (some ⟨w.heap.size + 1, 0, none⟩) = .pointer (some ⟨g7, 0, none⟩) ∧ Bk ((w.alloc (.cells (insV (setI 1 x)).toArray 40)).alloc (.cells (insV (setI 3 y)).toArray 40)).drew g6 40 (insV (setI 1 x)) ∧ Bk ((w.alloc (.cells (insV (setI 1 x)).toArray 40)).alloc (.cells (insV (setI 3 y)).toArray 40)).drew g7 40 (insV (setI 3 y)) ∧
    Below w.heap.size w ((w.alloc (.cells (insV (setI 1 x)).toArray 40)).alloc (.cells (insV (setI 3 y)).toArray 40)).drew := by
  have h0 := Bk.new w 40 (insV (setI 1 x))
  have h1 := Bk.new (w.alloc (.cells (insV (setI 1 x)).toArray 40)) 40 (insV (setI 3 y))
  rw [World.size_alloc] at h1
  exact ⟨_, _, rfl, rfl, (h0.alloc _).drew, h1.drew, (((Below.refl _ _).alloc (Nat.le_refl _) _).alloc (by simp) _).drew⟩
theorem cut_ba (w : World) (x y : Int) : ∃ g6 g7 : Nat, Value.pointer (some ⟨w.heap.size + 1, 0, none⟩) = .pointer (some ⟨g6, 0, none⟩) ∧ Value.pointer (some ⟨w.heap.size, 0, none⟩) = .pointer (some ⟨g7, 0, none⟩) ∧ Bk ((w.alloc (.cells (insV (setI 3 y)).toArray 40)).alloc (.cells (insV (setI 1 x)).toArray 40)).drew g6 40 (insV (setI 1 x)) ∧ Bk ((w.alloc (.cells (insV (setI 3 y)).toArray 40)).alloc (.cells (insV (setI 1 x)).toArray 40)).drew g7 40 (insV (setI 3 y)) ∧
    Below w.heap.size w ((w.alloc (.cells (insV (setI 3 y)).toArray 40)).alloc (.cells (insV (setI 1 x)).toArray 40)).drew := by
  have h0 := Bk.new w 40 (insV (setI 3 y))
  have h1 := Bk.new (w.alloc (.cells (insV (setI 3 y)).toArray 40)) 40 (insV (setI 1 x))
  rw [World.size_alloc] at h1
  exact ⟨_, _, rfl, rfl, h1.drew, (h0.alloc _).drew, (((Below.refl _ _).alloc (Nat.le_refl _) _).alloc (by simp) _).drew⟩
theorem s36 {w : World} {g6 g7 g9 g10 : Nat} {x y z z' : Int} (h6 : Bk w g6 40 (insV (setI 1 x))) (h7 : Bk w g7 40 (insV (setI 3 y))) (h9 : Bk w g9 40 (insV (wrI y z))) (h10 : Bk w g10 40 (insV (rdI y z'))) : w.cell? ⟨g6, 0, none⟩ = some (.int .u8 1) ∧ w.cell? ⟨g6, 1, none⟩ = some (.int .u8 0) ∧ w.cell? ⟨g6, 2, none⟩ = some (.bool false) ∧ w.cell? ⟨g6, 3, none⟩ = some (.int .i64 1) ∧ w.cell? ⟨g6, 4, none⟩ = some (.int .i64 0) ∧ w.cell? ⟨g6, 5, none⟩ = some (.int .i64 0) ∧ w.cell? ⟨g6, 6, none⟩ = some (.int .u64 x) ∧ w.cell? ⟨g6, 7, none⟩ = some (.int .i64 0) ∧ w.cell? ⟨g6, 8, none⟩ = some (.int .i64 0) ∧ w.cell? ⟨g7, 0, none⟩ = some (.int .u8 1) ∧ w.cell? ⟨g7, 1, none⟩ = some (.int .u8 0) ∧ w.cell? ⟨g7, 2, none⟩ = some (.bool false) ∧ w.cell? ⟨g7, 3, none⟩ = some (.int .i64 3) ∧ w.cell? ⟨g7, 4, none⟩ = some (.int .i64 0) ∧ w.cell? ⟨g7, 5, none⟩ = some (.int .i64 0) ∧ w.cell? ⟨g7, 6, none⟩ = some (.int .u64 y) ∧ w.cell? ⟨g7, 7, none⟩ = some (.int .i64 0) ∧ w.cell? ⟨g7, 8, none⟩ = some (.int .i64 0) ∧ w.cell? ⟨g9, 0, none⟩ = some (.int .u8 6) ∧ w.cell? ⟨g9, 1, none⟩ = some (.int .u8 0) ∧ w.cell? ⟨g9, 2, none⟩ = some (.bool false) ∧ w.cell? ⟨g9, 3, none⟩ = some (.int .i64 0) ∧ w.cell? ⟨g9, 4, none⟩ = some (.int .i64 1) ∧ w.cell? ⟨g9, 5, none⟩ = some (.int .i64 3) ∧ w.cell? ⟨g9, 6, none⟩ = some (.int .u64 y) ∧ w.cell? ⟨g9, 7, none⟩ = some (.int .i64 z) ∧ w.cell? ⟨g9, 8, none⟩ = some (.int .i64 0) ∧ w.cell? ⟨g10, 0, none⟩ = some (.int .u8 5) ∧ w.cell? ⟨g10, 1, none⟩ = some (.int .u8 0) ∧ w.cell? ⟨g10, 2, none⟩ = some (.bool false) ∧ w.cell? ⟨g10, 3, none⟩ = some (.int .i64 4) ∧ w.cell? ⟨g10, 4, none⟩ = some (.int .i64 1) ∧ w.cell? ⟨g10, 5, none⟩ = some (.int .i64 0) ∧ w.cell? ⟨g10, 6, none⟩ = some (.int .u64 y) ∧ w.cell? ⟨g10, 7, none⟩ = some (.int .i64 z') ∧ w.cell? ⟨g10, 8, none⟩ = some (.int .i64 0) :=
  ⟨h6.cell 0, h6.cell 1, h6.cell 2, h6.cell 3, h6.cell 4, h6.cell 5, h6.cell 6, h6.cell 7, h6.cell 8, h7.cell 0, h7.cell 1, h7.cell 2, h7.cell 3, h7.cell 4, h7.cell 5, h7.cell 6, h7.cell 7, h7.cell 8, h9.cell 0, h9.cell 1, h9.cell 2, h9.cell 3, h9.cell 4, h9.cell 5, h9.cell 6, h9.cell 7, h9.cell 8, h10.cell 0, h10.cell 1, h10.cell 2, h10.cell 3, h10.cell 4, h10.cell 5, h10.cell 6, h10.cell 7, h10.cell 8⟩
theorem s27 {w : World} {g6 g7 g : Nat} {x y : Int} {f : Ins} (h6 : Bk w g6 40 (insV (setI 1 x))) (h7 : Bk w g7 40 (insV (setI 3 y))) (h : Bk w g 40 (insV f)) : w.cell? ⟨g6, 0, none⟩ = some (.int .u8 1) ∧ w.cell? ⟨g6, 1, none⟩ = some (.int .u8 0) ∧ w.cell? ⟨g6, 2, none⟩ = some (.bool false) ∧ w.cell? ⟨g6, 3, none⟩ = some (.int .i64 1) ∧ w.cell? ⟨g6, 4, none⟩ = some (.int .i64 0) ∧ w.cell? ⟨g6, 5, none⟩ = some (.int .i64 0) ∧ w.cell? ⟨g6, 6, none⟩ = some (.int .u64 x) ∧ w.cell? ⟨g6, 7, none⟩ = some (.int .i64 0) ∧ w.cell? ⟨g6, 8, none⟩ = some (.int .i64 0) ∧ w.cell? ⟨g7, 0, none⟩ = some (.int .u8 1) ∧ w.cell? ⟨g7, 1, none⟩ = some (.int .u8 0) ∧ w.cell? ⟨g7, 2, none⟩ = some (.bool false) ∧ w.cell? ⟨g7, 3, none⟩ = some (.int .i64 3) ∧ w.cell? ⟨g7, 4, none⟩ = some (.int .i64 0) ∧ w.cell? ⟨g7, 5, none⟩ = some (.int .i64 0) ∧ w.cell? ⟨g7, 6, none⟩ = some (.int .u64 y) ∧ w.cell? ⟨g7, 7, none⟩ = some (.int .i64 0) ∧ w.cell? ⟨g7, 8, none⟩ = some (.int .i64 0) ∧ w.cell? ⟨g, 0, none⟩ = some (.int .u8 f.op) ∧ w.cell? ⟨g, 1, none⟩ = some (.int .u8 f.what) ∧ w.cell? ⟨g, 2, none⟩ = some (.bool f.nar) ∧ w.cell? ⟨g, 3, none⟩ = some (.int .i64 f.d) ∧ w.cell? ⟨g, 4, none⟩ = some (.int .i64 f.a) ∧ w.cell? ⟨g, 5, none⟩ = some (.int .i64 f.b) ∧ w.cell? ⟨g, 6, none⟩ = some (.int .u64 f.n) ∧ w.cell? ⟨g, 7, none⟩ = some (.int .i64 f.size) ∧ w.cell? ⟨g, 8, none⟩ = some (.int .i64 f.to) :=
  ⟨h6.cell 0, h6.cell 1, h6.cell 2, h6.cell 3, h6.cell 4, h6.cell 5, h6.cell 6, h6.cell 7, h6.cell 8, h7.cell 0, h7.cell 1, h7.cell 2, h7.cell 3, h7.cell 4, h7.cell 5, h7.cell 6, h7.cell 7, h7.cell 8, h.cell 0, h.cell 1, h.cell 2, h.cell 3, h.cell 4, h.cell 5, h.cell 6, h.cell 7, h.cell 8⟩
theorem zeros_rd {w : World} {base g N : Nat} (h : w.ownsRow base 5 1 (.slice (some ⟨g, 0, none⟩) N N) N (madeCells (Value.cells (.int .u8 0)) (N * 1)).toList) (o n : Nat) (hn : o + n ≤ N) : ∃ pk : List Int, pk.length = n ∧ Bytes pk ∧ Rd w w.heap.size (some ⟨g, o, none⟩) n (u8s pk) := by
  rcases h.2 with ⟨h', _⟩ | ⟨g', cap', cur, h', hb, hg, hnc, hcm, hcs, htake⟩
  · simp at h'
  · simp only [Value.slice.injEq, Option.some.injEq, Addr.mk.injEq, and_true, true_and] at h'
    obtain ⟨rfl, rfl⟩ := h'
    have hl := (Array.getElem?_eq_some_iff.1 hg).1
    have hc : ∀ j, j < N → w.cell? ⟨g, j, none⟩ = some (.int .u8 0) := by
      intro j hj
      rw [cell_of_row w g j _ _ _ hg]
      have h1 : (cur.toList.take (N * 1))[j]? = some (.int .u8 0) := by
        rw [htake, Array.getElem?_toList]
        simp [madeCells, Value.cells, hj, Nat.mod_one]
      rw [List.getElem?_take, if_pos (by omega)] at h1
      simpa using h1
    refine ⟨List.replicate n 0, List.length_replicate, fun x hx => by rw [List.eq_of_mem_replicate hx]; omega, ⟨fun e => (by cases e), fun _ => ⟨_, rfl, hl, fun j u hu => ?_⟩⟩⟩
    simp only [u8s, List.map_replicate] at hu
    have hj := (List.getElem?_eq_some_iff.1 hu).1
    rw [List.length_replicate] at hj
    rw [List.getElem?_replicate, if_pos hj] at hu
    injection hu with hu
    subst hu
    rw [show Addr.add ⟨g, o, none⟩ j = ⟨g, o + j, none⟩ by unfold Addr.add; split <;> simp_all]
    exact hc _ (by omega)
theorem doesN {N o g : Nat} {pk : List Int} (hl : pk.length = N) (hp : Bytes pk) (hN : N ≤ 1000000) (A : Option Addr) (c : Nat) (xs : List Ins) (W : World) (h1 : Inss W (fun b => b < W.heap.size) A c xs) (h2 : ∀ f ∈ xs, InsOk f) (h3 : Rd W W.heap.size (some ⟨g, o, none⟩) N (u8s pk)) :
    Calls Try.prog 13 #[.slice (some ⟨g, o, none⟩) N N, .slice A xs.length c] W fun e w' => e = .returned (.bool true) ∧ Below W.heap.size W w' := by
  subst hl
  exact doesF_any A c xs _ _ pk W h1 h2 h3 hp hN
def gotoI (t : Int) : Ins := { op := 7, what := 0, nar := false, d := 0, a := 0, b := 0, n := 0, size := 0, «to» := t }
theorem okE16 : ∀ f ∈ [endI 16], InsOk f := by
  intro f hf
  simp at hf
  subst hf
  exact okE 16
theorem okL0 : ∀ f ∈ [loadI 0, endI 0], InsOk f := by
  intro f hf
  simp at hf
  rcases hf with rfl | rfl
  · exact okL 0 (by decide) (by decide)
  · exact okE 0
theorem okG : ∀ f ∈ [gotoI 2, endI 1, endI 2], InsOk f := by
  intro f hf
  simp at hf
  rcases hf with rfl | rfl | rfl
  · exact ⟨Int.le_refl 0, Int.le_refl 0, (by show (0 : Int) ≤ _; omega)⟩
  · exact okE 1
  · exact okE 2
theorem start_n0 (w : World) : N0 (((w.alloc (.cells #[.int .u8 129, .int .u8 2, .int .u8 3, .int .u8 4, .int .u8 5, .int .u8 6, .int .u8 7, .int .u8 8, .int .u8 9] 5)).alloc (.cells #[.int .u64 0, .int .u64 1, .int .u64 2, .int .u64 4, .int .u64 5, .int .u64 7, .int .u64 8, .int .u64 9, .int .u64 10, .int .u64 31, .int .u64 32, .int .u64 63, .int .u64 64, .int .u64 511, .int .u64 512, .int .u64 513, .int .u64 2147483647, .int .u64 2147483648, .int .u64 4294967296, .int .u64 9223372036854775807, .int .u64 9223372036854775808, .int .u64 18446744073709551103, .int .u64 18446744073709551104, .int .u64 18446744073709551105, .int .u64 18446744073709551607, .int .u64 18446744073709551608, .int .u64 18446744073709551609, .int .u64 18446744073709551612, .int .u64 18446744073709551614, .int .u64 18446744073709551615] 28)).alloc (.cells #[.int .i64 1, .int .i64 2, .int .i64 4, .int .i64 8] 3)) w.heap.size ∧ Below w.heap.size w (((w.alloc (.cells #[.int .u8 129, .int .u8 2, .int .u8 3, .int .u8 4, .int .u8 5, .int .u8 6, .int .u8 7, .int .u8 8, .int .u8 9] 5)).alloc (.cells #[.int .u64 0, .int .u64 1, .int .u64 2, .int .u64 4, .int .u64 5, .int .u64 7, .int .u64 8, .int .u64 9, .int .u64 10, .int .u64 31, .int .u64 32, .int .u64 63, .int .u64 64, .int .u64 511, .int .u64 512, .int .u64 513, .int .u64 2147483647, .int .u64 2147483648, .int .u64 4294967296, .int .u64 9223372036854775807, .int .u64 9223372036854775808, .int .u64 18446744073709551103, .int .u64 18446744073709551104, .int .u64 18446744073709551105, .int .u64 18446744073709551607, .int .u64 18446744073709551608, .int .u64 18446744073709551609, .int .u64 18446744073709551612, .int .u64 18446744073709551614, .int .u64 18446744073709551615] 28)).alloc (.cells #[.int .i64 1, .int .i64 2, .int .i64 4, .int .i64 8] 3)) ∧ (((w.alloc (.cells #[.int .u8 129, .int .u8 2, .int .u8 3, .int .u8 4, .int .u8 5, .int .u8 6, .int .u8 7, .int .u8 8, .int .u8 9] 5)).alloc (.cells #[.int .u64 0, .int .u64 1, .int .u64 2, .int .u64 4, .int .u64 5, .int .u64 7, .int .u64 8, .int .u64 9, .int .u64 10, .int .u64 31, .int .u64 32, .int .u64 63, .int .u64 64, .int .u64 511, .int .u64 512, .int .u64 513, .int .u64 2147483647, .int .u64 2147483648, .int .u64 4294967296, .int .u64 9223372036854775807, .int .u64 9223372036854775808, .int .u64 18446744073709551103, .int .u64 18446744073709551104, .int .u64 18446744073709551105, .int .u64 18446744073709551607, .int .u64 18446744073709551608, .int .u64 18446744073709551609, .int .u64 18446744073709551612, .int .u64 18446744073709551614, .int .u64 18446744073709551615] 28)).alloc (.cells #[.int .i64 1, .int .i64 2, .int .i64 4, .int .i64 8] 3)).heap.size = w.heap.size + 1 + 1 + 1 := by
  have h0 := Bk.new w 5 (u8s pkN)
  have h1 := Bk.new (w.alloc (.cells (u8s pkN).toArray 5)) 28 (numsN.map (Value.int .u64))
  have h2 := Bk.new ((w.alloc (.cells (u8s pkN).toArray 5)).alloc (.cells (numsN.map (Value.int .u64)).toArray 28)) 3 (sizesN.map (Value.int .i64))
  rw [World.size_alloc] at h1
  rw [World.size_alloc, World.size_alloc] at h2
  exact ⟨⟨(h0.alloc _).alloc _, h1.alloc _, h2⟩, (((Below.refl _ _).alloc (Nat.le_refl _) _).alloc (by simp) _).alloc (by simp; omega) _, by simp⟩
set_option linter.unusedSimpArgs false in
set_option maxHeartbeats 40000000 in
theorem RunNumbers_any (w : World) : Calls Try.prog 4 #[] w fun e w' => e = .returned (.bool true) ∧ Below w.heap.size w w' := by
  go_enter Try.func4, Try.ntmps4
  go_wp2_with fail
  obtain ⟨hN, hB, hz⟩ := start_n0 w
  generalize (((w.alloc (.cells #[.int .u8 129, .int .u8 2, .int .u8 3, .int .u8 4, .int .u8 5, .int .u8 6, .int .u8 7, .int .u8 8, .int .u8 9] 5)).alloc (.cells #[.int .u64 0, .int .u64 1, .int .u64 2, .int .u64 4, .int .u64 5, .int .u64 7, .int .u64 8, .int .u64 9, .int .u64 10, .int .u64 31, .int .u64 32, .int .u64 63, .int .u64 64, .int .u64 511, .int .u64 512, .int .u64 513, .int .u64 2147483647, .int .u64 2147483648, .int .u64 4294967296, .int .u64 9223372036854775807, .int .u64 9223372036854775808, .int .u64 18446744073709551103, .int .u64 18446744073709551104, .int .u64 18446744073709551105, .int .u64 18446744073709551607, .int .u64 18446744073709551608, .int .u64 18446744073709551609, .int .u64 18446744073709551612, .int .u64 18446744073709551614, .int .u64 18446744073709551615] 28)).alloc (.cells #[.int .i64 1, .int .i64 2, .int .i64 4, .int .i64 8] 3)) = W0 at *
  have HN := Lib.hid hN
  have HB := Lib.hid hB
  have HZ := Lib.hid hz
  clear hN hB hz
  go_loopw [4] (fun v wr => ∃ i : Nat, i ≤ 30 ∧ v = .int .i64 i ∧ Below W0.heap.size W0 wr) (fun v _ => 30 - (intOf v).toNat)
  case atStart => exact ⟨0, by omega, rfl, Below.refl _ _⟩
  case round =>
    obtain ⟨i, hi, rfl, hbr⟩ := hrel
    obtain ⟨wo, rfl⟩ : ∃ wo : World, wo = wr := ⟨_, rfl⟩
    have HBO := Lib.hid hbr
    clear hbr
    by_cases hlt : i < 30
    · have d1 : decide ((i : Int) < 30) = true := decide_eq_true (by omega)
      obtain ⟨x, hx, x0, x1⟩ := numsN_at hlt
      go_wp2_with fail
      go_loopw [5] (fun v wr => ∃ k : Nat, k ≤ 30 ∧ v = .int .i64 k ∧ Below W0.heap.size W0 wr) (fun v _ => 30 - (intOf v).toNat)
      case atStart => exact ⟨0, by omega, rfl, HBO.out⟩
      case round =>
        clear d1
        obtain ⟨k, hk, rfl, hbr⟩ := hrel
        by_cases hltk : k < 30
        · have d2 : decide ((k : Int) < 30) = true := decide_eq_true (by omega)
          obtain ⟨y, hy, y0, y1⟩ := numsN_at hltk
          have cx := (HN.out.below hbr).num hx.out
          have cy := (HN.out.below hbr).num hy.out
          have hbs := hbr.size
          have HBR := Lib.hid hbr
          have HZ' := HZ.out
          clear hbr
          have i1 : (0 : Int) ≤ (i : Int) := by omega
          have i2 : (i : Int) < 30 := by omega
          have k1 : (0 : Int) ≤ (k : Int) := by omega
          have k2 : (k : Int) < 30 := by omega
          have l1 : w.heap.size + 1 < wr.heap.size := by omega
          have l2 : w.heap.size + 1 < wr.heap.size + 1 := by omega
          clear HZ'
          go_upto_region 10 with (fail)
          go_cut [6, 7] (fun v6 v7 wx => ∃ g6 g7 : Nat, v6 = .pointer (some ⟨g6, 0, none⟩) ∧ v7 = .pointer (some ⟨g7, 0, none⟩) ∧ Bk wx g6 40 (insV (setI 1 x)) ∧ Bk wx g7 40 (insV (setI 3 y)) ∧ Below wr.heap.size wr wx)
          case first =>
            go_region
            all_goals
              go_wp2_with fail
              go_meet
              first
                | exact cut_ab wr x y
                | exact cut_ba wr x y
          case rest =>
            obtain ⟨g6, g7, rfl, rfl, h6, h7, hb1⟩ := hcut
            have H6 := Lib.hid h6
            have H7 := Lib.hid h7
            have HC1 := Lib.hid (HBR.out.trans (hb1.mono hbs))
            clear h6 h7 hb1 cx cy i1 i2 k1 k2 l1 l2 HBR hbs HBO
            go_wp2_with fail
            go_loopw [8] (fun v wx => ∃ s : Nat, s ≤ 4 ∧ v = .int .i64 s ∧ Below wc.heap.size wc wx) (fun v _ => 4 - (intOf v).toNat)
            case atStart => exact ⟨0, by omega, rfl, Below.refl _ _⟩
            case round =>
              obtain ⟨s, hs, rfl, hbr⟩ := hrel
              obtain ⟨wk, rfl⟩ : ∃ wk : World, wk = wr := ⟨_, rfl⟩
              by_cases hlts : s < 4
              · have d3 : decide ((s : Int) < 4) = true := decide_eq_true (by omega)
                obtain ⟨z, hz⟩ := sizesN_at hlts
                have ok3 : ∀ f ∈ [setI 1 x, ldI y z, endI 4], InsOk f := by
                  intro f hf
                  simp at hf
                  rcases hf with rfl | rfl | rfl
                  · exact okS _ _ x0 x1
                  · exact okld _ _ y0 y1
                  · exact okE 4
                have HOK3 := Lib.hid ok3
                clear ok3
                obtain ⟨z', hz'⟩ := sizesN_at (k := 3 - s) (by omega)
                have hN1 := ((HN.out.below HC1.out).below hbr)
                have h6 := H6.out.below hbr H6.out.lt
                have h7 := H7.out.below hbr H7.out.lt
                have cy := hN1.num hy.out
                have cz := hN1.size hz.out
                obtain ⟨a0, a1, a2, a3, a4, a5, a6, a7, a8⟩ := ins9 h6
                simp only [setI] at a0 a1 a2 a3 a4 a5 a6 a7 a8
                have k1 : (0 : Int) ≤ (k : Int) := by omega
                have k2 : (k : Int) < 30 := by omega
                have s1 : (0 : Int) ≤ (s : Int) := by omega
                have s2 : (s : Int) < 4 := by omega
                have l6 := h6.lt
                have l1 := hN1.n.lt
                have l2 := hN1.s.lt
                have HN1 := Lib.hid hN1
                have HK6 := Lib.hid h6
                have HK7 := Lib.hid h7
                have HKB := Lib.hid hbr
                have hee := fun W => end_any 4 W
                simp only [insA, insV, endI] at hee
                have HEE := Lib.hid hee
                clear hN1 h6 h7 hbr hee
                go_upto_region 14 with (fail)
                go_cut [57] (fun v wx => v = .bool false ∧ Below wk.heap.size wk wx)
                case first =>
                  go_region_held3 (fun w' => w'.cell? ⟨g6, 0, none⟩ = some (.int .u8 1) ∧ w'.cell? ⟨g6, 1, none⟩ = some (.int .u8 0) ∧ w'.cell? ⟨g6, 2, none⟩ = some (.bool false) ∧ w'.cell? ⟨g6, 3, none⟩ = some (.int .i64 1) ∧ w'.cell? ⟨g6, 4, none⟩ = some (.int .i64 0) ∧ w'.cell? ⟨g6, 5, none⟩ = some (.int .i64 0) ∧ w'.cell? ⟨g6, 6, none⟩ = some (.int .u64 x) ∧ w'.cell? ⟨g6, 7, none⟩ = some (.int .i64 0) ∧ w'.cell? ⟨g6, 8, none⟩ = some (.int .i64 0) ∧ w'.cell? ⟨w.heap.size + 1, k, none⟩ = some (.int .u64 y) ∧ w'.cell? ⟨w.heap.size + 1 + 1, s, none⟩ = some (.int .i64 z)) (go_keep)
                    (first
                      | (go_at_call 14; refine (HEE.out _).mono ?_; rintro _ wa ⟨rfl, hba⟩; have hca : ∀ b o, b < wk.heap.size → wa.cell? ⟨b, o, none⟩ = wk.cell? ⟨b, o, none⟩ := (fun b o h => hba.cell (p := ⟨b, o, none⟩) h); have hza : wk.heap.size ≤ wa.heap.size := hba.size; have m6 : g6 < wa.heap.size := (by omega); have m1 : w.heap.size + 1 < wa.heap.size := (by omega); have m2 : w.heap.size + 1 + 1 < wa.heap.size := (by omega))
                      | (go_at_call 13; refine (doesF_any (some ⟨wa.heap.size, 0, none⟩) 3 [setI 1 x, ldI y z, endI 4] (some ⟨w.heap.size, 0, none⟩) 9 pkN _ (inss_bk (ext := []) (Bk.new wa 40 (flatV [setI 1 x, ldI y z, endI 4] ++ [])) (by simp) (by decide)) HOK3.out (bk_rd ((HN1.out.p.below (show Below wk.heap.size wk wa from (Below.refl _ _).drew.trans hba) HN1.out.p.lt).alloc _) 9) (by decide) (by decide)).mono ?_; rintro _ wb ⟨rfl, hbb⟩; have hcb : ∀ b o, b < wa.heap.size → wb.cell? ⟨b, o, none⟩ = wa.cell? ⟨b, o, none⟩ := (fun b o h => ((hbb.cell (p := ⟨b, o, none⟩) (by simp; omega)).trans (World.cell?_alloc_past _ _ _ h)))))
                  go_wp2_with fail
                  go_meet
                  exact ⟨rfl, (Below.refl _ _).drew.trans (hba.trans (((Below.refl _ _).alloc (Nat.le_refl _) _).trans (hbb.mono (by simp)) |>.mono hza))⟩
                case rest =>
                  obtain ⟨rfl, hb2⟩ := hcut
                  obtain ⟨wl, rfl⟩ : ∃ wl : World, wl = wc := ⟨_, rfl⟩
                  have HKL := Lib.hid hb2
                  have hz2 := hb2.size
                  have cy2 := (HN1.out.below hb2).num hy.out
                  have cz2 := (HN1.out.below hb2).size hz.out
                  have cw2 := (HN1.out.below hb2).size hz'.out
                  have m1 : w.heap.size + 1 < wl.heap.size := by omega
                  have m2 : w.heap.size + 1 + 1 < wl.heap.size := by omega
                  clear hb2 a0 a1 a2 a3 a4 a5 a6 a7 a8 cy cz
                  go_upto_region 16 with (fail)
                  go_cut [9] (fun v wx => ∃ g9 : Nat, v = .pointer (some ⟨g9, 0, none⟩) ∧ Bk wx g9 40 (insV (wrI y z)) ∧ Below wl.heap.size wl wx)
                  case first =>
                    go_region
                    all_goals
                      go_wp2_with fail
                      go_meet
                      exact ⟨_, rfl, (Bk.new wl 40 (insV (wrI y z))).drew, ((Below.refl _ _).alloc (Nat.le_refl _) _).drew⟩
                  case rest =>
                    obtain ⟨g9, rfl, h9, hb3⟩ := hcut
                    obtain ⟨wm, rfl⟩ : ∃ wm : World, wm = wc := ⟨_, rfl⟩
                    have HKM := Lib.hid (HKL.out.trans (hb3.mono hz2))
                    have hz3 := hb3.size
                    have H9 := Lib.hid h9
                    have cy3 := (HN1.out.below HKM.out).num hy.out
                    have cw3 := (HN1.out.below HKM.out).size hz'.out
                    have n1 : w.heap.size + 1 < wm.heap.size := by omega
                    have n2 : w.heap.size + 1 + 1 < wm.heap.size := by omega
                    have t1 : (0 : Int) ≤ 3 - (s : Int) := by omega
                    have t2 : 3 - (s : Int) < 4 := by omega
                    have t3 : (3 - (s : Int)).toNat = 3 - s := by omega
                    clear hb3 h9 cy2 cz2 cw2 m1 m2
                    go_upto_region 17 with (fail)
                    go_cut [10] (fun v wx => ∃ g10 : Nat, v = .pointer (some ⟨g10, 0, none⟩) ∧ Bk wx g10 40 (insV (rdI y z')) ∧ Below wm.heap.size wm wx)
                    case first =>
                      go_region
                      all_goals
                        go_wp2_with fail
                        go_meet
                        exact ⟨_, rfl, (Bk.new wm 40 (insV (rdI y z'))).drew, ((Below.refl _ _).alloc (Nat.le_refl _) _).drew⟩
                    case rest =>
                      obtain ⟨g10, rfl, h10, hb4⟩ := hcut
                      obtain ⟨wn, rfl⟩ : ∃ wn : World, wn = wc := ⟨_, rfl⟩
                      have HKN := Lib.hid (HKM.out.trans (hb4.mono (by omega)))
                      have hz4 := hb4.size
                      have h9 := H9.out.below hb4 H9.out.lt
                      have h6 := HK6.out.below HKN.out HK6.out.lt
                      have h7 := HK7.out.below HKN.out HK7.out.lt
                      have HP4 := Lib.hid (HN1.out.below HKN.out).p
                      have ok5 : ∀ f ∈ [setI 1 x, setI 3 y, wrI y z, rdI y z', endI 4], InsOk f := by
                        intro f hf
                        simp at hf
                        rcases hf with rfl | rfl | rfl | rfl | rfl
                        · exact okS _ _ x0 x1
                        · exact okS _ _ y0 y1
                        · exact okwr _ _ y0 y1
                        · exact okrd _ _ y0 y1
                        · exact okE 4
                      have ok4 : ∀ f ∈ [setI 1 x, setI 3 y, rdI y z', endI 4], InsOk f := by
                        intro f hf
                        simp at hf
                        rcases hf with rfl | rfl | rfl | rfl
                        · exact okS _ _ x0 x1
                        · exact okS _ _ y0 y1
                        · exact okrd _ _ y0 y1
                        · exact okE 4
                      have HOK5 := Lib.hid ok5
                      have HOK4 := Lib.hid ok4
                      clear ok5 ok4 hb4 cy3 cw3 n1 n2 t1 t2 t3
                      have H4 := Lib.hid (show Bk wn g6 40 (insV (setI 1 x)) ∧ Bk wn g7 40 (insV (setI 3 y)) ∧ Bk wn g9 40 (insV (wrI y z)) ∧ Bk wn g10 40 (insV (rdI y z')) from ⟨h6, h7, h9, h10⟩)
                      have hS0 := s36 h6 h7 h9 h10
                      have l6 := h6.lt
                      have l7 := h7.lt
                      have l9 := h9.lt
                      have l10 := h10.lt
                      clear h6 h7 h9 h10
                      go_upto_region 18 with (fail)
                      go_cut [95] (fun v wx => v = .bool false ∧ Below wn.heap.size wn wx)
                      case first =>
                        refine wp_region_held_drew (S := fun w' => w'.cell? ⟨g6, 0, none⟩ = some (.int .u8 1) ∧ w'.cell? ⟨g6, 1, none⟩ = some (.int .u8 0) ∧ w'.cell? ⟨g6, 2, none⟩ = some (.bool false) ∧ w'.cell? ⟨g6, 3, none⟩ = some (.int .i64 1) ∧ w'.cell? ⟨g6, 4, none⟩ = some (.int .i64 0) ∧ w'.cell? ⟨g6, 5, none⟩ = some (.int .i64 0) ∧ w'.cell? ⟨g6, 6, none⟩ = some (.int .u64 x) ∧ w'.cell? ⟨g6, 7, none⟩ = some (.int .i64 0) ∧ w'.cell? ⟨g6, 8, none⟩ = some (.int .i64 0) ∧ w'.cell? ⟨g7, 0, none⟩ = some (.int .u8 1) ∧ w'.cell? ⟨g7, 1, none⟩ = some (.int .u8 0) ∧ w'.cell? ⟨g7, 2, none⟩ = some (.bool false) ∧ w'.cell? ⟨g7, 3, none⟩ = some (.int .i64 3) ∧ w'.cell? ⟨g7, 4, none⟩ = some (.int .i64 0) ∧ w'.cell? ⟨g7, 5, none⟩ = some (.int .i64 0) ∧ w'.cell? ⟨g7, 6, none⟩ = some (.int .u64 y) ∧ w'.cell? ⟨g7, 7, none⟩ = some (.int .i64 0) ∧ w'.cell? ⟨g7, 8, none⟩ = some (.int .i64 0) ∧ w'.cell? ⟨g9, 0, none⟩ = some (.int .u8 6) ∧ w'.cell? ⟨g9, 1, none⟩ = some (.int .u8 0) ∧ w'.cell? ⟨g9, 2, none⟩ = some (.bool false) ∧ w'.cell? ⟨g9, 3, none⟩ = some (.int .i64 0) ∧ w'.cell? ⟨g9, 4, none⟩ = some (.int .i64 1) ∧ w'.cell? ⟨g9, 5, none⟩ = some (.int .i64 3) ∧ w'.cell? ⟨g9, 6, none⟩ = some (.int .u64 y) ∧ w'.cell? ⟨g9, 7, none⟩ = some (.int .i64 z) ∧ w'.cell? ⟨g9, 8, none⟩ = some (.int .i64 0) ∧ w'.cell? ⟨g10, 0, none⟩ = some (.int .u8 5) ∧ w'.cell? ⟨g10, 1, none⟩ = some (.int .u8 0) ∧ w'.cell? ⟨g10, 2, none⟩ = some (.bool false) ∧ w'.cell? ⟨g10, 3, none⟩ = some (.int .i64 4) ∧ w'.cell? ⟨g10, 4, none⟩ = some (.int .i64 1) ∧ w'.cell? ⟨g10, 5, none⟩ = some (.int .i64 0) ∧ w'.cell? ⟨g10, 6, none⟩ = some (.int .u64 y) ∧ w'.cell? ⟨g10, 7, none⟩ = some (.int .i64 z') ∧ w'.cell? ⟨g10, 8, none⟩ = some (.int .i64 0)) (by kernel_rfl) hS0 (fun hS => ?_)
                        refine wpAnyH_take (i := 0) (v := ?_) rfl (by kernel_rfl) (by kernel_rfl) (by kernel_rfl) (fun _ _ _ h => h) (Or.inl ⟨by rfl, ?_⟩) hS ?_
                        rotate_left 1
                        · intro w' hSw
                          go_simp <;> with_reducible rfl
                        try simp only [List.getElem_toArray, List.getElem_cons_zero, List.getElem_cons_succ, Act.put, List.setIfInBounds_toArray, List.set_cons_zero, List.set_cons_succ]
                        refine wpAnyH_take (i := 1) (v := ?_) rfl (by kernel_rfl) (by kernel_rfl) (by kernel_rfl) (fun _ _ _ h => h) (Or.inl ⟨by rfl, ?_⟩) hS ?_
                        rotate_left 1
                        · intro w' hSw
                          go_simp <;> with_reducible rfl
                        try simp only [List.getElem_toArray, List.getElem_cons_zero, List.getElem_cons_succ, Act.put, List.setIfInBounds_toArray, List.set_cons_zero, List.set_cons_succ]
                        refine wpAnyH_take (i := 2) (v := ?_) rfl (by kernel_rfl) (by kernel_rfl) (by kernel_rfl) (fun _ _ _ h => h) (Or.inl ⟨by rfl, ?_⟩) hS ?_
                        rotate_left 1
                        · intro w' hSw
                          go_simp <;> with_reducible rfl
                        try simp only [List.getElem_toArray, List.getElem_cons_zero, List.getElem_cons_succ, Act.put, List.setIfInBounds_toArray, List.set_cons_zero, List.set_cons_succ]
                        refine wpAnyH_take (i := 3) (v := ?_) rfl (by kernel_rfl) (by kernel_rfl) (by kernel_rfl) (fun _ _ _ h => h) (Or.inl ⟨by rfl, ?_⟩) hS ?_
                        rotate_left 1
                        · intro w' hSw
                          go_simp <;> with_reducible rfl
                        try simp only [List.getElem_toArray, List.getElem_cons_zero, List.getElem_cons_succ, Act.put, List.setIfInBounds_toArray, List.set_cons_zero, List.set_cons_succ]
                        refine wpAnyH_take (i := 4) (v := ?_) rfl (by kernel_rfl) (by kernel_rfl) (by kernel_rfl) (fun _ _ _ h => h) (Or.inl ⟨by rfl, ?_⟩) hS ?_
                        rotate_left 1
                        · intro w' hSw
                          go_simp <;> with_reducible rfl
                        try simp only [List.getElem_toArray, List.getElem_cons_zero, List.getElem_cons_succ, Act.put, List.setIfInBounds_toArray, List.set_cons_zero, List.set_cons_succ]
                        refine wpAnyH_ready (rs := [5]) (by kernel_rfl) (by simp) (AllReadyH.cons rfl (fun K hK => ?_) AllReadyH.nil)
                        go_simp
                        refine (HEE.out _).mono ?_
                        rintro _ p1 ⟨rfl, hb1⟩
                        have hq1 : wn.heap.size ≤ p1.heap.size := hb1.size
                        have hSn : p1.cell? ⟨g6, 0, none⟩ = some (.int .u8 1) ∧ p1.cell? ⟨g6, 1, none⟩ = some (.int .u8 0) ∧ p1.cell? ⟨g6, 2, none⟩ = some (.bool false) ∧ p1.cell? ⟨g6, 3, none⟩ = some (.int .i64 1) ∧ p1.cell? ⟨g6, 4, none⟩ = some (.int .i64 0) ∧ p1.cell? ⟨g6, 5, none⟩ = some (.int .i64 0) ∧ p1.cell? ⟨g6, 6, none⟩ = some (.int .u64 x) ∧ p1.cell? ⟨g6, 7, none⟩ = some (.int .i64 0) ∧ p1.cell? ⟨g6, 8, none⟩ = some (.int .i64 0) ∧ p1.cell? ⟨g7, 0, none⟩ = some (.int .u8 1) ∧ p1.cell? ⟨g7, 1, none⟩ = some (.int .u8 0) ∧ p1.cell? ⟨g7, 2, none⟩ = some (.bool false) ∧ p1.cell? ⟨g7, 3, none⟩ = some (.int .i64 3) ∧ p1.cell? ⟨g7, 4, none⟩ = some (.int .i64 0) ∧ p1.cell? ⟨g7, 5, none⟩ = some (.int .i64 0) ∧ p1.cell? ⟨g7, 6, none⟩ = some (.int .u64 y) ∧ p1.cell? ⟨g7, 7, none⟩ = some (.int .i64 0) ∧ p1.cell? ⟨g7, 8, none⟩ = some (.int .i64 0) ∧ p1.cell? ⟨g9, 0, none⟩ = some (.int .u8 6) ∧ p1.cell? ⟨g9, 1, none⟩ = some (.int .u8 0) ∧ p1.cell? ⟨g9, 2, none⟩ = some (.bool false) ∧ p1.cell? ⟨g9, 3, none⟩ = some (.int .i64 0) ∧ p1.cell? ⟨g9, 4, none⟩ = some (.int .i64 1) ∧ p1.cell? ⟨g9, 5, none⟩ = some (.int .i64 3) ∧ p1.cell? ⟨g9, 6, none⟩ = some (.int .u64 y) ∧ p1.cell? ⟨g9, 7, none⟩ = some (.int .i64 z) ∧ p1.cell? ⟨g9, 8, none⟩ = some (.int .i64 0) ∧ p1.cell? ⟨g10, 0, none⟩ = some (.int .u8 5) ∧ p1.cell? ⟨g10, 1, none⟩ = some (.int .u8 0) ∧ p1.cell? ⟨g10, 2, none⟩ = some (.bool false) ∧ p1.cell? ⟨g10, 3, none⟩ = some (.int .i64 4) ∧ p1.cell? ⟨g10, 4, none⟩ = some (.int .i64 1) ∧ p1.cell? ⟨g10, 5, none⟩ = some (.int .i64 0) ∧ p1.cell? ⟨g10, 6, none⟩ = some (.int .u64 y) ∧ p1.cell? ⟨g10, 7, none⟩ = some (.int .i64 z') ∧ p1.cell? ⟨g10, 8, none⟩ = some (.int .i64 0) := ⟨(hb1.cell (p := ⟨g6, 0, none⟩) (show g6 < wn.heap.size from l6)).trans hS.1, (hb1.cell (p := ⟨g6, 1, none⟩) (show g6 < wn.heap.size from l6)).trans hS.2.1, (hb1.cell (p := ⟨g6, 2, none⟩) (show g6 < wn.heap.size from l6)).trans hS.2.2.1, (hb1.cell (p := ⟨g6, 3, none⟩) (show g6 < wn.heap.size from l6)).trans hS.2.2.2.1, (hb1.cell (p := ⟨g6, 4, none⟩) (show g6 < wn.heap.size from l6)).trans hS.2.2.2.2.1, (hb1.cell (p := ⟨g6, 5, none⟩) (show g6 < wn.heap.size from l6)).trans hS.2.2.2.2.2.1, (hb1.cell (p := ⟨g6, 6, none⟩) (show g6 < wn.heap.size from l6)).trans hS.2.2.2.2.2.2.1, (hb1.cell (p := ⟨g6, 7, none⟩) (show g6 < wn.heap.size from l6)).trans hS.2.2.2.2.2.2.2.1, (hb1.cell (p := ⟨g6, 8, none⟩) (show g6 < wn.heap.size from l6)).trans hS.2.2.2.2.2.2.2.2.1, (hb1.cell (p := ⟨g7, 0, none⟩) (show g7 < wn.heap.size from l7)).trans hS.2.2.2.2.2.2.2.2.2.1, (hb1.cell (p := ⟨g7, 1, none⟩) (show g7 < wn.heap.size from l7)).trans hS.2.2.2.2.2.2.2.2.2.2.1, (hb1.cell (p := ⟨g7, 2, none⟩) (show g7 < wn.heap.size from l7)).trans hS.2.2.2.2.2.2.2.2.2.2.2.1, (hb1.cell (p := ⟨g7, 3, none⟩) (show g7 < wn.heap.size from l7)).trans hS.2.2.2.2.2.2.2.2.2.2.2.2.1, (hb1.cell (p := ⟨g7, 4, none⟩) (show g7 < wn.heap.size from l7)).trans hS.2.2.2.2.2.2.2.2.2.2.2.2.2.1, (hb1.cell (p := ⟨g7, 5, none⟩) (show g7 < wn.heap.size from l7)).trans hS.2.2.2.2.2.2.2.2.2.2.2.2.2.2.1, (hb1.cell (p := ⟨g7, 6, none⟩) (show g7 < wn.heap.size from l7)).trans hS.2.2.2.2.2.2.2.2.2.2.2.2.2.2.2.1, (hb1.cell (p := ⟨g7, 7, none⟩) (show g7 < wn.heap.size from l7)).trans hS.2.2.2.2.2.2.2.2.2.2.2.2.2.2.2.2.1, (hb1.cell (p := ⟨g7, 8, none⟩) (show g7 < wn.heap.size from l7)).trans hS.2.2.2.2.2.2.2.2.2.2.2.2.2.2.2.2.2.1, (hb1.cell (p := ⟨g9, 0, none⟩) (show g9 < wn.heap.size from l9)).trans hS.2.2.2.2.2.2.2.2.2.2.2.2.2.2.2.2.2.2.1, (hb1.cell (p := ⟨g9, 1, none⟩) (show g9 < wn.heap.size from l9)).trans hS.2.2.2.2.2.2.2.2.2.2.2.2.2.2.2.2.2.2.2.1, (hb1.cell (p := ⟨g9, 2, none⟩) (show g9 < wn.heap.size from l9)).trans hS.2.2.2.2.2.2.2.2.2.2.2.2.2.2.2.2.2.2.2.2.1, (hb1.cell (p := ⟨g9, 3, none⟩) (show g9 < wn.heap.size from l9)).trans hS.2.2.2.2.2.2.2.2.2.2.2.2.2.2.2.2.2.2.2.2.2.1, (hb1.cell (p := ⟨g9, 4, none⟩) (show g9 < wn.heap.size from l9)).trans hS.2.2.2.2.2.2.2.2.2.2.2.2.2.2.2.2.2.2.2.2.2.2.1, (hb1.cell (p := ⟨g9, 5, none⟩) (show g9 < wn.heap.size from l9)).trans hS.2.2.2.2.2.2.2.2.2.2.2.2.2.2.2.2.2.2.2.2.2.2.2.1, (hb1.cell (p := ⟨g9, 6, none⟩) (show g9 < wn.heap.size from l9)).trans hS.2.2.2.2.2.2.2.2.2.2.2.2.2.2.2.2.2.2.2.2.2.2.2.2.1, (hb1.cell (p := ⟨g9, 7, none⟩) (show g9 < wn.heap.size from l9)).trans hS.2.2.2.2.2.2.2.2.2.2.2.2.2.2.2.2.2.2.2.2.2.2.2.2.2.1, (hb1.cell (p := ⟨g9, 8, none⟩) (show g9 < wn.heap.size from l9)).trans hS.2.2.2.2.2.2.2.2.2.2.2.2.2.2.2.2.2.2.2.2.2.2.2.2.2.2.1, (hb1.cell (p := ⟨g10, 0, none⟩) (show g10 < wn.heap.size from l10)).trans hS.2.2.2.2.2.2.2.2.2.2.2.2.2.2.2.2.2.2.2.2.2.2.2.2.2.2.2.1, (hb1.cell (p := ⟨g10, 1, none⟩) (show g10 < wn.heap.size from l10)).trans hS.2.2.2.2.2.2.2.2.2.2.2.2.2.2.2.2.2.2.2.2.2.2.2.2.2.2.2.2.1, (hb1.cell (p := ⟨g10, 2, none⟩) (show g10 < wn.heap.size from l10)).trans hS.2.2.2.2.2.2.2.2.2.2.2.2.2.2.2.2.2.2.2.2.2.2.2.2.2.2.2.2.2.1, (hb1.cell (p := ⟨g10, 3, none⟩) (show g10 < wn.heap.size from l10)).trans hS.2.2.2.2.2.2.2.2.2.2.2.2.2.2.2.2.2.2.2.2.2.2.2.2.2.2.2.2.2.2.1, (hb1.cell (p := ⟨g10, 4, none⟩) (show g10 < wn.heap.size from l10)).trans hS.2.2.2.2.2.2.2.2.2.2.2.2.2.2.2.2.2.2.2.2.2.2.2.2.2.2.2.2.2.2.2.1, (hb1.cell (p := ⟨g10, 5, none⟩) (show g10 < wn.heap.size from l10)).trans hS.2.2.2.2.2.2.2.2.2.2.2.2.2.2.2.2.2.2.2.2.2.2.2.2.2.2.2.2.2.2.2.2.1, (hb1.cell (p := ⟨g10, 6, none⟩) (show g10 < wn.heap.size from l10)).trans hS.2.2.2.2.2.2.2.2.2.2.2.2.2.2.2.2.2.2.2.2.2.2.2.2.2.2.2.2.2.2.2.2.2.1, (hb1.cell (p := ⟨g10, 7, none⟩) (show g10 < wn.heap.size from l10)).trans hS.2.2.2.2.2.2.2.2.2.2.2.2.2.2.2.2.2.2.2.2.2.2.2.2.2.2.2.2.2.2.2.2.2.2.1, (hb1.cell (p := ⟨g10, 8, none⟩) (show g10 < wn.heap.size from l10)).trans hS.2.2.2.2.2.2.2.2.2.2.2.2.2.2.2.2.2.2.2.2.2.2.2.2.2.2.2.2.2.2.2.2.2.2.2⟩
                        go_simp
                        refine hK _ _ hSn (fun hS => ?_)
                        clear hK K hSn
                        try simp only [List.getElem_toArray, List.getElem_cons_zero, List.getElem_cons_succ, Act.put, List.setIfInBounds_toArray, List.set_cons_zero, List.set_cons_succ]
                        refine wpAnyH_ready (rs := [6]) (by kernel_rfl) (by simp) (AllReadyH.cons rfl (fun K hK => ?_) AllReadyH.nil)
                        go_simp
                        have hSn : (p1.alloc (.cells (flatV [setI 1 x, setI 3 y, wrI y z, rdI y z', endI 4] ++ []).toArray 40)).cell? ⟨g6, 0, none⟩ = some (.int .u8 1) ∧ (p1.alloc (.cells (flatV [setI 1 x, setI 3 y, wrI y z, rdI y z', endI 4] ++ []).toArray 40)).cell? ⟨g6, 1, none⟩ = some (.int .u8 0) ∧ (p1.alloc (.cells (flatV [setI 1 x, setI 3 y, wrI y z, rdI y z', endI 4] ++ []).toArray 40)).cell? ⟨g6, 2, none⟩ = some (.bool false) ∧ (p1.alloc (.cells (flatV [setI 1 x, setI 3 y, wrI y z, rdI y z', endI 4] ++ []).toArray 40)).cell? ⟨g6, 3, none⟩ = some (.int .i64 1) ∧ (p1.alloc (.cells (flatV [setI 1 x, setI 3 y, wrI y z, rdI y z', endI 4] ++ []).toArray 40)).cell? ⟨g6, 4, none⟩ = some (.int .i64 0) ∧ (p1.alloc (.cells (flatV [setI 1 x, setI 3 y, wrI y z, rdI y z', endI 4] ++ []).toArray 40)).cell? ⟨g6, 5, none⟩ = some (.int .i64 0) ∧ (p1.alloc (.cells (flatV [setI 1 x, setI 3 y, wrI y z, rdI y z', endI 4] ++ []).toArray 40)).cell? ⟨g6, 6, none⟩ = some (.int .u64 x) ∧ (p1.alloc (.cells (flatV [setI 1 x, setI 3 y, wrI y z, rdI y z', endI 4] ++ []).toArray 40)).cell? ⟨g6, 7, none⟩ = some (.int .i64 0) ∧ (p1.alloc (.cells (flatV [setI 1 x, setI 3 y, wrI y z, rdI y z', endI 4] ++ []).toArray 40)).cell? ⟨g6, 8, none⟩ = some (.int .i64 0) ∧ (p1.alloc (.cells (flatV [setI 1 x, setI 3 y, wrI y z, rdI y z', endI 4] ++ []).toArray 40)).cell? ⟨g7, 0, none⟩ = some (.int .u8 1) ∧ (p1.alloc (.cells (flatV [setI 1 x, setI 3 y, wrI y z, rdI y z', endI 4] ++ []).toArray 40)).cell? ⟨g7, 1, none⟩ = some (.int .u8 0) ∧ (p1.alloc (.cells (flatV [setI 1 x, setI 3 y, wrI y z, rdI y z', endI 4] ++ []).toArray 40)).cell? ⟨g7, 2, none⟩ = some (.bool false) ∧ (p1.alloc (.cells (flatV [setI 1 x, setI 3 y, wrI y z, rdI y z', endI 4] ++ []).toArray 40)).cell? ⟨g7, 3, none⟩ = some (.int .i64 3) ∧ (p1.alloc (.cells (flatV [setI 1 x, setI 3 y, wrI y z, rdI y z', endI 4] ++ []).toArray 40)).cell? ⟨g7, 4, none⟩ = some (.int .i64 0) ∧ (p1.alloc (.cells (flatV [setI 1 x, setI 3 y, wrI y z, rdI y z', endI 4] ++ []).toArray 40)).cell? ⟨g7, 5, none⟩ = some (.int .i64 0) ∧ (p1.alloc (.cells (flatV [setI 1 x, setI 3 y, wrI y z, rdI y z', endI 4] ++ []).toArray 40)).cell? ⟨g7, 6, none⟩ = some (.int .u64 y) ∧ (p1.alloc (.cells (flatV [setI 1 x, setI 3 y, wrI y z, rdI y z', endI 4] ++ []).toArray 40)).cell? ⟨g7, 7, none⟩ = some (.int .i64 0) ∧ (p1.alloc (.cells (flatV [setI 1 x, setI 3 y, wrI y z, rdI y z', endI 4] ++ []).toArray 40)).cell? ⟨g7, 8, none⟩ = some (.int .i64 0) ∧ (p1.alloc (.cells (flatV [setI 1 x, setI 3 y, wrI y z, rdI y z', endI 4] ++ []).toArray 40)).cell? ⟨g9, 0, none⟩ = some (.int .u8 6) ∧ (p1.alloc (.cells (flatV [setI 1 x, setI 3 y, wrI y z, rdI y z', endI 4] ++ []).toArray 40)).cell? ⟨g9, 1, none⟩ = some (.int .u8 0) ∧ (p1.alloc (.cells (flatV [setI 1 x, setI 3 y, wrI y z, rdI y z', endI 4] ++ []).toArray 40)).cell? ⟨g9, 2, none⟩ = some (.bool false) ∧ (p1.alloc (.cells (flatV [setI 1 x, setI 3 y, wrI y z, rdI y z', endI 4] ++ []).toArray 40)).cell? ⟨g9, 3, none⟩ = some (.int .i64 0) ∧ (p1.alloc (.cells (flatV [setI 1 x, setI 3 y, wrI y z, rdI y z', endI 4] ++ []).toArray 40)).cell? ⟨g9, 4, none⟩ = some (.int .i64 1) ∧ (p1.alloc (.cells (flatV [setI 1 x, setI 3 y, wrI y z, rdI y z', endI 4] ++ []).toArray 40)).cell? ⟨g9, 5, none⟩ = some (.int .i64 3) ∧ (p1.alloc (.cells (flatV [setI 1 x, setI 3 y, wrI y z, rdI y z', endI 4] ++ []).toArray 40)).cell? ⟨g9, 6, none⟩ = some (.int .u64 y) ∧ (p1.alloc (.cells (flatV [setI 1 x, setI 3 y, wrI y z, rdI y z', endI 4] ++ []).toArray 40)).cell? ⟨g9, 7, none⟩ = some (.int .i64 z) ∧ (p1.alloc (.cells (flatV [setI 1 x, setI 3 y, wrI y z, rdI y z', endI 4] ++ []).toArray 40)).cell? ⟨g9, 8, none⟩ = some (.int .i64 0) ∧ (p1.alloc (.cells (flatV [setI 1 x, setI 3 y, wrI y z, rdI y z', endI 4] ++ []).toArray 40)).cell? ⟨g10, 0, none⟩ = some (.int .u8 5) ∧ (p1.alloc (.cells (flatV [setI 1 x, setI 3 y, wrI y z, rdI y z', endI 4] ++ []).toArray 40)).cell? ⟨g10, 1, none⟩ = some (.int .u8 0) ∧ (p1.alloc (.cells (flatV [setI 1 x, setI 3 y, wrI y z, rdI y z', endI 4] ++ []).toArray 40)).cell? ⟨g10, 2, none⟩ = some (.bool false) ∧ (p1.alloc (.cells (flatV [setI 1 x, setI 3 y, wrI y z, rdI y z', endI 4] ++ []).toArray 40)).cell? ⟨g10, 3, none⟩ = some (.int .i64 4) ∧ (p1.alloc (.cells (flatV [setI 1 x, setI 3 y, wrI y z, rdI y z', endI 4] ++ []).toArray 40)).cell? ⟨g10, 4, none⟩ = some (.int .i64 1) ∧ (p1.alloc (.cells (flatV [setI 1 x, setI 3 y, wrI y z, rdI y z', endI 4] ++ []).toArray 40)).cell? ⟨g10, 5, none⟩ = some (.int .i64 0) ∧ (p1.alloc (.cells (flatV [setI 1 x, setI 3 y, wrI y z, rdI y z', endI 4] ++ []).toArray 40)).cell? ⟨g10, 6, none⟩ = some (.int .u64 y) ∧ (p1.alloc (.cells (flatV [setI 1 x, setI 3 y, wrI y z, rdI y z', endI 4] ++ []).toArray 40)).cell? ⟨g10, 7, none⟩ = some (.int .i64 z') ∧ (p1.alloc (.cells (flatV [setI 1 x, setI 3 y, wrI y z, rdI y z', endI 4] ++ []).toArray 40)).cell? ⟨g10, 8, none⟩ = some (.int .i64 0) := ⟨(World.cell?_alloc_past _ _ _ (show g6 < p1.heap.size by omega)).trans hS.1, (World.cell?_alloc_past _ _ _ (show g6 < p1.heap.size by omega)).trans hS.2.1, (World.cell?_alloc_past _ _ _ (show g6 < p1.heap.size by omega)).trans hS.2.2.1, (World.cell?_alloc_past _ _ _ (show g6 < p1.heap.size by omega)).trans hS.2.2.2.1, (World.cell?_alloc_past _ _ _ (show g6 < p1.heap.size by omega)).trans hS.2.2.2.2.1, (World.cell?_alloc_past _ _ _ (show g6 < p1.heap.size by omega)).trans hS.2.2.2.2.2.1, (World.cell?_alloc_past _ _ _ (show g6 < p1.heap.size by omega)).trans hS.2.2.2.2.2.2.1, (World.cell?_alloc_past _ _ _ (show g6 < p1.heap.size by omega)).trans hS.2.2.2.2.2.2.2.1, (World.cell?_alloc_past _ _ _ (show g6 < p1.heap.size by omega)).trans hS.2.2.2.2.2.2.2.2.1, (World.cell?_alloc_past _ _ _ (show g7 < p1.heap.size by omega)).trans hS.2.2.2.2.2.2.2.2.2.1, (World.cell?_alloc_past _ _ _ (show g7 < p1.heap.size by omega)).trans hS.2.2.2.2.2.2.2.2.2.2.1, (World.cell?_alloc_past _ _ _ (show g7 < p1.heap.size by omega)).trans hS.2.2.2.2.2.2.2.2.2.2.2.1, (World.cell?_alloc_past _ _ _ (show g7 < p1.heap.size by omega)).trans hS.2.2.2.2.2.2.2.2.2.2.2.2.1, (World.cell?_alloc_past _ _ _ (show g7 < p1.heap.size by omega)).trans hS.2.2.2.2.2.2.2.2.2.2.2.2.2.1, (World.cell?_alloc_past _ _ _ (show g7 < p1.heap.size by omega)).trans hS.2.2.2.2.2.2.2.2.2.2.2.2.2.2.1, (World.cell?_alloc_past _ _ _ (show g7 < p1.heap.size by omega)).trans hS.2.2.2.2.2.2.2.2.2.2.2.2.2.2.2.1, (World.cell?_alloc_past _ _ _ (show g7 < p1.heap.size by omega)).trans hS.2.2.2.2.2.2.2.2.2.2.2.2.2.2.2.2.1, (World.cell?_alloc_past _ _ _ (show g7 < p1.heap.size by omega)).trans hS.2.2.2.2.2.2.2.2.2.2.2.2.2.2.2.2.2.1, (World.cell?_alloc_past _ _ _ (show g9 < p1.heap.size by omega)).trans hS.2.2.2.2.2.2.2.2.2.2.2.2.2.2.2.2.2.2.1, (World.cell?_alloc_past _ _ _ (show g9 < p1.heap.size by omega)).trans hS.2.2.2.2.2.2.2.2.2.2.2.2.2.2.2.2.2.2.2.1, (World.cell?_alloc_past _ _ _ (show g9 < p1.heap.size by omega)).trans hS.2.2.2.2.2.2.2.2.2.2.2.2.2.2.2.2.2.2.2.2.1, (World.cell?_alloc_past _ _ _ (show g9 < p1.heap.size by omega)).trans hS.2.2.2.2.2.2.2.2.2.2.2.2.2.2.2.2.2.2.2.2.2.1, (World.cell?_alloc_past _ _ _ (show g9 < p1.heap.size by omega)).trans hS.2.2.2.2.2.2.2.2.2.2.2.2.2.2.2.2.2.2.2.2.2.2.1, (World.cell?_alloc_past _ _ _ (show g9 < p1.heap.size by omega)).trans hS.2.2.2.2.2.2.2.2.2.2.2.2.2.2.2.2.2.2.2.2.2.2.2.1, (World.cell?_alloc_past _ _ _ (show g9 < p1.heap.size by omega)).trans hS.2.2.2.2.2.2.2.2.2.2.2.2.2.2.2.2.2.2.2.2.2.2.2.2.1, (World.cell?_alloc_past _ _ _ (show g9 < p1.heap.size by omega)).trans hS.2.2.2.2.2.2.2.2.2.2.2.2.2.2.2.2.2.2.2.2.2.2.2.2.2.1, (World.cell?_alloc_past _ _ _ (show g9 < p1.heap.size by omega)).trans hS.2.2.2.2.2.2.2.2.2.2.2.2.2.2.2.2.2.2.2.2.2.2.2.2.2.2.1, (World.cell?_alloc_past _ _ _ (show g10 < p1.heap.size by omega)).trans hS.2.2.2.2.2.2.2.2.2.2.2.2.2.2.2.2.2.2.2.2.2.2.2.2.2.2.2.1, (World.cell?_alloc_past _ _ _ (show g10 < p1.heap.size by omega)).trans hS.2.2.2.2.2.2.2.2.2.2.2.2.2.2.2.2.2.2.2.2.2.2.2.2.2.2.2.2.1, (World.cell?_alloc_past _ _ _ (show g10 < p1.heap.size by omega)).trans hS.2.2.2.2.2.2.2.2.2.2.2.2.2.2.2.2.2.2.2.2.2.2.2.2.2.2.2.2.2.1, (World.cell?_alloc_past _ _ _ (show g10 < p1.heap.size by omega)).trans hS.2.2.2.2.2.2.2.2.2.2.2.2.2.2.2.2.2.2.2.2.2.2.2.2.2.2.2.2.2.2.1, (World.cell?_alloc_past _ _ _ (show g10 < p1.heap.size by omega)).trans hS.2.2.2.2.2.2.2.2.2.2.2.2.2.2.2.2.2.2.2.2.2.2.2.2.2.2.2.2.2.2.2.1, (World.cell?_alloc_past _ _ _ (show g10 < p1.heap.size by omega)).trans hS.2.2.2.2.2.2.2.2.2.2.2.2.2.2.2.2.2.2.2.2.2.2.2.2.2.2.2.2.2.2.2.2.1, (World.cell?_alloc_past _ _ _ (show g10 < p1.heap.size by omega)).trans hS.2.2.2.2.2.2.2.2.2.2.2.2.2.2.2.2.2.2.2.2.2.2.2.2.2.2.2.2.2.2.2.2.2.1, (World.cell?_alloc_past _ _ _ (show g10 < p1.heap.size by omega)).trans hS.2.2.2.2.2.2.2.2.2.2.2.2.2.2.2.2.2.2.2.2.2.2.2.2.2.2.2.2.2.2.2.2.2.2.1, (World.cell?_alloc_past _ _ _ (show g10 < p1.heap.size by omega)).trans hS.2.2.2.2.2.2.2.2.2.2.2.2.2.2.2.2.2.2.2.2.2.2.2.2.2.2.2.2.2.2.2.2.2.2.2⟩
                        refine hK _ _ hSn (fun hS => ?_)
                        clear hK K hSn
                        try simp only [List.getElem_toArray, List.getElem_cons_zero, List.getElem_cons_succ, Act.put, List.setIfInBounds_toArray, List.set_cons_zero, List.set_cons_succ]
                        refine wpAnyH_ready (rs := [7]) (by kernel_rfl) (by simp) (AllReadyH.cons rfl (fun K hK => ?_) AllReadyH.nil)
                        go_simp
                        refine (doesF_any (some ⟨p1.heap.size, 0, none⟩) 5 [setI 1 x, setI 3 y, wrI y z, rdI y z', endI 4] (some ⟨w.heap.size, 0, none⟩) 9 pkN _ (inss_bk (ext := []) (Bk.new p1 40 (flatV [setI 1 x, setI 3 y, wrI y z, rdI y z', endI 4] ++ [])) (by simp) (by decide)) HOK5.out (bk_rd ((HP4.out.below (show Below wn.heap.size wn p1 from (Below.refl _ _).drew.trans hb1) HP4.out.lt).alloc _) 9) (by decide) (by decide)).mono ?_
                        rintro _ p2 ⟨rfl, hb2⟩
                        have hq2 : p1.heap.size + 1 ≤ p2.heap.size := by simpa using hb2.size
                        have hSn : p2.cell? ⟨g6, 0, none⟩ = some (.int .u8 1) ∧ p2.cell? ⟨g6, 1, none⟩ = some (.int .u8 0) ∧ p2.cell? ⟨g6, 2, none⟩ = some (.bool false) ∧ p2.cell? ⟨g6, 3, none⟩ = some (.int .i64 1) ∧ p2.cell? ⟨g6, 4, none⟩ = some (.int .i64 0) ∧ p2.cell? ⟨g6, 5, none⟩ = some (.int .i64 0) ∧ p2.cell? ⟨g6, 6, none⟩ = some (.int .u64 x) ∧ p2.cell? ⟨g6, 7, none⟩ = some (.int .i64 0) ∧ p2.cell? ⟨g6, 8, none⟩ = some (.int .i64 0) ∧ p2.cell? ⟨g7, 0, none⟩ = some (.int .u8 1) ∧ p2.cell? ⟨g7, 1, none⟩ = some (.int .u8 0) ∧ p2.cell? ⟨g7, 2, none⟩ = some (.bool false) ∧ p2.cell? ⟨g7, 3, none⟩ = some (.int .i64 3) ∧ p2.cell? ⟨g7, 4, none⟩ = some (.int .i64 0) ∧ p2.cell? ⟨g7, 5, none⟩ = some (.int .i64 0) ∧ p2.cell? ⟨g7, 6, none⟩ = some (.int .u64 y) ∧ p2.cell? ⟨g7, 7, none⟩ = some (.int .i64 0) ∧ p2.cell? ⟨g7, 8, none⟩ = some (.int .i64 0) ∧ p2.cell? ⟨g9, 0, none⟩ = some (.int .u8 6) ∧ p2.cell? ⟨g9, 1, none⟩ = some (.int .u8 0) ∧ p2.cell? ⟨g9, 2, none⟩ = some (.bool false) ∧ p2.cell? ⟨g9, 3, none⟩ = some (.int .i64 0) ∧ p2.cell? ⟨g9, 4, none⟩ = some (.int .i64 1) ∧ p2.cell? ⟨g9, 5, none⟩ = some (.int .i64 3) ∧ p2.cell? ⟨g9, 6, none⟩ = some (.int .u64 y) ∧ p2.cell? ⟨g9, 7, none⟩ = some (.int .i64 z) ∧ p2.cell? ⟨g9, 8, none⟩ = some (.int .i64 0) ∧ p2.cell? ⟨g10, 0, none⟩ = some (.int .u8 5) ∧ p2.cell? ⟨g10, 1, none⟩ = some (.int .u8 0) ∧ p2.cell? ⟨g10, 2, none⟩ = some (.bool false) ∧ p2.cell? ⟨g10, 3, none⟩ = some (.int .i64 4) ∧ p2.cell? ⟨g10, 4, none⟩ = some (.int .i64 1) ∧ p2.cell? ⟨g10, 5, none⟩ = some (.int .i64 0) ∧ p2.cell? ⟨g10, 6, none⟩ = some (.int .u64 y) ∧ p2.cell? ⟨g10, 7, none⟩ = some (.int .i64 z') ∧ p2.cell? ⟨g10, 8, none⟩ = some (.int .i64 0) := ⟨(hb2.cell (p := ⟨g6, 0, none⟩) (by simp; omega)).trans hS.1, (hb2.cell (p := ⟨g6, 1, none⟩) (by simp; omega)).trans hS.2.1, (hb2.cell (p := ⟨g6, 2, none⟩) (by simp; omega)).trans hS.2.2.1, (hb2.cell (p := ⟨g6, 3, none⟩) (by simp; omega)).trans hS.2.2.2.1, (hb2.cell (p := ⟨g6, 4, none⟩) (by simp; omega)).trans hS.2.2.2.2.1, (hb2.cell (p := ⟨g6, 5, none⟩) (by simp; omega)).trans hS.2.2.2.2.2.1, (hb2.cell (p := ⟨g6, 6, none⟩) (by simp; omega)).trans hS.2.2.2.2.2.2.1, (hb2.cell (p := ⟨g6, 7, none⟩) (by simp; omega)).trans hS.2.2.2.2.2.2.2.1, (hb2.cell (p := ⟨g6, 8, none⟩) (by simp; omega)).trans hS.2.2.2.2.2.2.2.2.1, (hb2.cell (p := ⟨g7, 0, none⟩) (by simp; omega)).trans hS.2.2.2.2.2.2.2.2.2.1, (hb2.cell (p := ⟨g7, 1, none⟩) (by simp; omega)).trans hS.2.2.2.2.2.2.2.2.2.2.1, (hb2.cell (p := ⟨g7, 2, none⟩) (by simp; omega)).trans hS.2.2.2.2.2.2.2.2.2.2.2.1, (hb2.cell (p := ⟨g7, 3, none⟩) (by simp; omega)).trans hS.2.2.2.2.2.2.2.2.2.2.2.2.1, (hb2.cell (p := ⟨g7, 4, none⟩) (by simp; omega)).trans hS.2.2.2.2.2.2.2.2.2.2.2.2.2.1, (hb2.cell (p := ⟨g7, 5, none⟩) (by simp; omega)).trans hS.2.2.2.2.2.2.2.2.2.2.2.2.2.2.1, (hb2.cell (p := ⟨g7, 6, none⟩) (by simp; omega)).trans hS.2.2.2.2.2.2.2.2.2.2.2.2.2.2.2.1, (hb2.cell (p := ⟨g7, 7, none⟩) (by simp; omega)).trans hS.2.2.2.2.2.2.2.2.2.2.2.2.2.2.2.2.1, (hb2.cell (p := ⟨g7, 8, none⟩) (by simp; omega)).trans hS.2.2.2.2.2.2.2.2.2.2.2.2.2.2.2.2.2.1, (hb2.cell (p := ⟨g9, 0, none⟩) (by simp; omega)).trans hS.2.2.2.2.2.2.2.2.2.2.2.2.2.2.2.2.2.2.1, (hb2.cell (p := ⟨g9, 1, none⟩) (by simp; omega)).trans hS.2.2.2.2.2.2.2.2.2.2.2.2.2.2.2.2.2.2.2.1, (hb2.cell (p := ⟨g9, 2, none⟩) (by simp; omega)).trans hS.2.2.2.2.2.2.2.2.2.2.2.2.2.2.2.2.2.2.2.2.1, (hb2.cell (p := ⟨g9, 3, none⟩) (by simp; omega)).trans hS.2.2.2.2.2.2.2.2.2.2.2.2.2.2.2.2.2.2.2.2.2.1, (hb2.cell (p := ⟨g9, 4, none⟩) (by simp; omega)).trans hS.2.2.2.2.2.2.2.2.2.2.2.2.2.2.2.2.2.2.2.2.2.2.1, (hb2.cell (p := ⟨g9, 5, none⟩) (by simp; omega)).trans hS.2.2.2.2.2.2.2.2.2.2.2.2.2.2.2.2.2.2.2.2.2.2.2.1, (hb2.cell (p := ⟨g9, 6, none⟩) (by simp; omega)).trans hS.2.2.2.2.2.2.2.2.2.2.2.2.2.2.2.2.2.2.2.2.2.2.2.2.1, (hb2.cell (p := ⟨g9, 7, none⟩) (by simp; omega)).trans hS.2.2.2.2.2.2.2.2.2.2.2.2.2.2.2.2.2.2.2.2.2.2.2.2.2.1, (hb2.cell (p := ⟨g9, 8, none⟩) (by simp; omega)).trans hS.2.2.2.2.2.2.2.2.2.2.2.2.2.2.2.2.2.2.2.2.2.2.2.2.2.2.1, (hb2.cell (p := ⟨g10, 0, none⟩) (by simp; omega)).trans hS.2.2.2.2.2.2.2.2.2.2.2.2.2.2.2.2.2.2.2.2.2.2.2.2.2.2.2.1, (hb2.cell (p := ⟨g10, 1, none⟩) (by simp; omega)).trans hS.2.2.2.2.2.2.2.2.2.2.2.2.2.2.2.2.2.2.2.2.2.2.2.2.2.2.2.2.1, (hb2.cell (p := ⟨g10, 2, none⟩) (by simp; omega)).trans hS.2.2.2.2.2.2.2.2.2.2.2.2.2.2.2.2.2.2.2.2.2.2.2.2.2.2.2.2.2.1, (hb2.cell (p := ⟨g10, 3, none⟩) (by simp; omega)).trans hS.2.2.2.2.2.2.2.2.2.2.2.2.2.2.2.2.2.2.2.2.2.2.2.2.2.2.2.2.2.2.1, (hb2.cell (p := ⟨g10, 4, none⟩) (by simp; omega)).trans hS.2.2.2.2.2.2.2.2.2.2.2.2.2.2.2.2.2.2.2.2.2.2.2.2.2.2.2.2.2.2.2.1, (hb2.cell (p := ⟨g10, 5, none⟩) (by simp; omega)).trans hS.2.2.2.2.2.2.2.2.2.2.2.2.2.2.2.2.2.2.2.2.2.2.2.2.2.2.2.2.2.2.2.2.1, (hb2.cell (p := ⟨g10, 6, none⟩) (by simp; omega)).trans hS.2.2.2.2.2.2.2.2.2.2.2.2.2.2.2.2.2.2.2.2.2.2.2.2.2.2.2.2.2.2.2.2.2.1, (hb2.cell (p := ⟨g10, 7, none⟩) (by simp; omega)).trans hS.2.2.2.2.2.2.2.2.2.2.2.2.2.2.2.2.2.2.2.2.2.2.2.2.2.2.2.2.2.2.2.2.2.2.1, (hb2.cell (p := ⟨g10, 8, none⟩) (by simp; omega)).trans hS.2.2.2.2.2.2.2.2.2.2.2.2.2.2.2.2.2.2.2.2.2.2.2.2.2.2.2.2.2.2.2.2.2.2.2⟩
                        go_simp
                        refine hK _ _ hSn (fun hS => ?_)
                        clear hK K hSn
                        try simp only [List.getElem_toArray, List.getElem_cons_zero, List.getElem_cons_succ, Act.put, List.setIfInBounds_toArray, List.set_cons_zero, List.set_cons_succ]
                        refine wpAnyH_take (i := 8) (v := ?_) rfl (by kernel_rfl) (by kernel_rfl) (by kernel_rfl) (fun _ _ _ h => h) (Or.inl ⟨by rfl, ?_⟩) hS ?_
                        rotate_left 1
                        · intro w' hSw
                          go_simp <;> with_reducible rfl
                        try simp only [List.getElem_toArray, List.getElem_cons_zero, List.getElem_cons_succ, Act.put, List.setIfInBounds_toArray, List.set_cons_zero, List.set_cons_succ]
                        refine wpAnyH_take (i := 9) (v := ?_) rfl (by kernel_rfl) (by kernel_rfl) (by kernel_rfl) (fun _ _ _ h => h) (Or.inl ⟨by rfl, ?_⟩) hS ?_
                        rotate_left 1
                        · intro w' hSw
                          go_simp <;> with_reducible rfl
                        try simp only [List.getElem_toArray, List.getElem_cons_zero, List.getElem_cons_succ, Act.put, List.setIfInBounds_toArray, List.set_cons_zero, List.set_cons_succ]
                        refine wpAnyH_take (i := 10) (v := ?_) rfl (by kernel_rfl) (by kernel_rfl) (by kernel_rfl) (fun _ _ _ h => h) (Or.inl ⟨by go_simp, ?_⟩) hS ?_
                        rotate_left 1
                        · intro w' hSw
                          go_simp <;> with_reducible rfl
                        try simp only [List.getElem_toArray, List.getElem_cons_zero, List.getElem_cons_succ, Act.put, List.setIfInBounds_toArray, List.set_cons_zero, List.set_cons_succ]
                        refine wpAnyH_take (i := 11) (v := ?_) rfl (by kernel_rfl) (by kernel_rfl) (by kernel_rfl) (fun _ _ _ h => h) (Or.inl ⟨by go_simp, ?_⟩) hS ?_
                        rotate_left 1
                        · intro w' hSw
                          go_simp <;> with_reducible rfl
                        try simp only [List.getElem_toArray, List.getElem_cons_zero, List.getElem_cons_succ, Act.put, List.setIfInBounds_toArray, List.set_cons_zero, List.set_cons_succ]
                        refine wpAnyH_take (i := 12) (v := ?_) rfl (by kernel_rfl) (by kernel_rfl) (by kernel_rfl) (fun _ _ _ h => h) (Or.inl ⟨by go_simp, ?_⟩) hS ?_
                        rotate_left 1
                        · intro w' hSw
                          go_simp <;> with_reducible rfl
                        try simp only [List.getElem_toArray, List.getElem_cons_zero, List.getElem_cons_succ, Act.put, List.setIfInBounds_toArray, List.set_cons_zero, List.set_cons_succ]
                        refine wpAnyH_take (i := 13) (v := ?_) rfl (by kernel_rfl) (by kernel_rfl) (by kernel_rfl) (fun _ _ _ h => h) (Or.inl ⟨by go_simp, ?_⟩) hS ?_
                        rotate_left 1
                        · intro w' hSw
                          go_simp <;> with_reducible rfl
                        try simp only [List.getElem_toArray, List.getElem_cons_zero, List.getElem_cons_succ, Act.put, List.setIfInBounds_toArray, List.set_cons_zero, List.set_cons_succ]
                        refine wpAnyH_ready (rs := [14]) (by kernel_rfl) (by simp) (AllReadyH.cons rfl (fun K hK => ?_) AllReadyH.nil)
                        go_simp
                        refine (HEE.out _).mono ?_
                        rintro _ p3 ⟨rfl, hb3⟩
                        have hq3 : p2.heap.size ≤ p3.heap.size := hb3.size
                        have hSn : p3.cell? ⟨g6, 0, none⟩ = some (.int .u8 1) ∧ p3.cell? ⟨g6, 1, none⟩ = some (.int .u8 0) ∧ p3.cell? ⟨g6, 2, none⟩ = some (.bool false) ∧ p3.cell? ⟨g6, 3, none⟩ = some (.int .i64 1) ∧ p3.cell? ⟨g6, 4, none⟩ = some (.int .i64 0) ∧ p3.cell? ⟨g6, 5, none⟩ = some (.int .i64 0) ∧ p3.cell? ⟨g6, 6, none⟩ = some (.int .u64 x) ∧ p3.cell? ⟨g6, 7, none⟩ = some (.int .i64 0) ∧ p3.cell? ⟨g6, 8, none⟩ = some (.int .i64 0) ∧ p3.cell? ⟨g7, 0, none⟩ = some (.int .u8 1) ∧ p3.cell? ⟨g7, 1, none⟩ = some (.int .u8 0) ∧ p3.cell? ⟨g7, 2, none⟩ = some (.bool false) ∧ p3.cell? ⟨g7, 3, none⟩ = some (.int .i64 3) ∧ p3.cell? ⟨g7, 4, none⟩ = some (.int .i64 0) ∧ p3.cell? ⟨g7, 5, none⟩ = some (.int .i64 0) ∧ p3.cell? ⟨g7, 6, none⟩ = some (.int .u64 y) ∧ p3.cell? ⟨g7, 7, none⟩ = some (.int .i64 0) ∧ p3.cell? ⟨g7, 8, none⟩ = some (.int .i64 0) ∧ p3.cell? ⟨g9, 0, none⟩ = some (.int .u8 6) ∧ p3.cell? ⟨g9, 1, none⟩ = some (.int .u8 0) ∧ p3.cell? ⟨g9, 2, none⟩ = some (.bool false) ∧ p3.cell? ⟨g9, 3, none⟩ = some (.int .i64 0) ∧ p3.cell? ⟨g9, 4, none⟩ = some (.int .i64 1) ∧ p3.cell? ⟨g9, 5, none⟩ = some (.int .i64 3) ∧ p3.cell? ⟨g9, 6, none⟩ = some (.int .u64 y) ∧ p3.cell? ⟨g9, 7, none⟩ = some (.int .i64 z) ∧ p3.cell? ⟨g9, 8, none⟩ = some (.int .i64 0) ∧ p3.cell? ⟨g10, 0, none⟩ = some (.int .u8 5) ∧ p3.cell? ⟨g10, 1, none⟩ = some (.int .u8 0) ∧ p3.cell? ⟨g10, 2, none⟩ = some (.bool false) ∧ p3.cell? ⟨g10, 3, none⟩ = some (.int .i64 4) ∧ p3.cell? ⟨g10, 4, none⟩ = some (.int .i64 1) ∧ p3.cell? ⟨g10, 5, none⟩ = some (.int .i64 0) ∧ p3.cell? ⟨g10, 6, none⟩ = some (.int .u64 y) ∧ p3.cell? ⟨g10, 7, none⟩ = some (.int .i64 z') ∧ p3.cell? ⟨g10, 8, none⟩ = some (.int .i64 0) := ⟨(hb3.cell (p := ⟨g6, 0, none⟩) (show g6 < p2.heap.size by omega)).trans hS.1, (hb3.cell (p := ⟨g6, 1, none⟩) (show g6 < p2.heap.size by omega)).trans hS.2.1, (hb3.cell (p := ⟨g6, 2, none⟩) (show g6 < p2.heap.size by omega)).trans hS.2.2.1, (hb3.cell (p := ⟨g6, 3, none⟩) (show g6 < p2.heap.size by omega)).trans hS.2.2.2.1, (hb3.cell (p := ⟨g6, 4, none⟩) (show g6 < p2.heap.size by omega)).trans hS.2.2.2.2.1, (hb3.cell (p := ⟨g6, 5, none⟩) (show g6 < p2.heap.size by omega)).trans hS.2.2.2.2.2.1, (hb3.cell (p := ⟨g6, 6, none⟩) (show g6 < p2.heap.size by omega)).trans hS.2.2.2.2.2.2.1, (hb3.cell (p := ⟨g6, 7, none⟩) (show g6 < p2.heap.size by omega)).trans hS.2.2.2.2.2.2.2.1, (hb3.cell (p := ⟨g6, 8, none⟩) (show g6 < p2.heap.size by omega)).trans hS.2.2.2.2.2.2.2.2.1, (hb3.cell (p := ⟨g7, 0, none⟩) (show g7 < p2.heap.size by omega)).trans hS.2.2.2.2.2.2.2.2.2.1, (hb3.cell (p := ⟨g7, 1, none⟩) (show g7 < p2.heap.size by omega)).trans hS.2.2.2.2.2.2.2.2.2.2.1, (hb3.cell (p := ⟨g7, 2, none⟩) (show g7 < p2.heap.size by omega)).trans hS.2.2.2.2.2.2.2.2.2.2.2.1, (hb3.cell (p := ⟨g7, 3, none⟩) (show g7 < p2.heap.size by omega)).trans hS.2.2.2.2.2.2.2.2.2.2.2.2.1, (hb3.cell (p := ⟨g7, 4, none⟩) (show g7 < p2.heap.size by omega)).trans hS.2.2.2.2.2.2.2.2.2.2.2.2.2.1, (hb3.cell (p := ⟨g7, 5, none⟩) (show g7 < p2.heap.size by omega)).trans hS.2.2.2.2.2.2.2.2.2.2.2.2.2.2.1, (hb3.cell (p := ⟨g7, 6, none⟩) (show g7 < p2.heap.size by omega)).trans hS.2.2.2.2.2.2.2.2.2.2.2.2.2.2.2.1, (hb3.cell (p := ⟨g7, 7, none⟩) (show g7 < p2.heap.size by omega)).trans hS.2.2.2.2.2.2.2.2.2.2.2.2.2.2.2.2.1, (hb3.cell (p := ⟨g7, 8, none⟩) (show g7 < p2.heap.size by omega)).trans hS.2.2.2.2.2.2.2.2.2.2.2.2.2.2.2.2.2.1, (hb3.cell (p := ⟨g9, 0, none⟩) (show g9 < p2.heap.size by omega)).trans hS.2.2.2.2.2.2.2.2.2.2.2.2.2.2.2.2.2.2.1, (hb3.cell (p := ⟨g9, 1, none⟩) (show g9 < p2.heap.size by omega)).trans hS.2.2.2.2.2.2.2.2.2.2.2.2.2.2.2.2.2.2.2.1, (hb3.cell (p := ⟨g9, 2, none⟩) (show g9 < p2.heap.size by omega)).trans hS.2.2.2.2.2.2.2.2.2.2.2.2.2.2.2.2.2.2.2.2.1, (hb3.cell (p := ⟨g9, 3, none⟩) (show g9 < p2.heap.size by omega)).trans hS.2.2.2.2.2.2.2.2.2.2.2.2.2.2.2.2.2.2.2.2.2.1, (hb3.cell (p := ⟨g9, 4, none⟩) (show g9 < p2.heap.size by omega)).trans hS.2.2.2.2.2.2.2.2.2.2.2.2.2.2.2.2.2.2.2.2.2.2.1, (hb3.cell (p := ⟨g9, 5, none⟩) (show g9 < p2.heap.size by omega)).trans hS.2.2.2.2.2.2.2.2.2.2.2.2.2.2.2.2.2.2.2.2.2.2.2.1, (hb3.cell (p := ⟨g9, 6, none⟩) (show g9 < p2.heap.size by omega)).trans hS.2.2.2.2.2.2.2.2.2.2.2.2.2.2.2.2.2.2.2.2.2.2.2.2.1, (hb3.cell (p := ⟨g9, 7, none⟩) (show g9 < p2.heap.size by omega)).trans hS.2.2.2.2.2.2.2.2.2.2.2.2.2.2.2.2.2.2.2.2.2.2.2.2.2.1, (hb3.cell (p := ⟨g9, 8, none⟩) (show g9 < p2.heap.size by omega)).trans hS.2.2.2.2.2.2.2.2.2.2.2.2.2.2.2.2.2.2.2.2.2.2.2.2.2.2.1, (hb3.cell (p := ⟨g10, 0, none⟩) (show g10 < p2.heap.size by omega)).trans hS.2.2.2.2.2.2.2.2.2.2.2.2.2.2.2.2.2.2.2.2.2.2.2.2.2.2.2.1, (hb3.cell (p := ⟨g10, 1, none⟩) (show g10 < p2.heap.size by omega)).trans hS.2.2.2.2.2.2.2.2.2.2.2.2.2.2.2.2.2.2.2.2.2.2.2.2.2.2.2.2.1, (hb3.cell (p := ⟨g10, 2, none⟩) (show g10 < p2.heap.size by omega)).trans hS.2.2.2.2.2.2.2.2.2.2.2.2.2.2.2.2.2.2.2.2.2.2.2.2.2.2.2.2.2.1, (hb3.cell (p := ⟨g10, 3, none⟩) (show g10 < p2.heap.size by omega)).trans hS.2.2.2.2.2.2.2.2.2.2.2.2.2.2.2.2.2.2.2.2.2.2.2.2.2.2.2.2.2.2.1, (hb3.cell (p := ⟨g10, 4, none⟩) (show g10 < p2.heap.size by omega)).trans hS.2.2.2.2.2.2.2.2.2.2.2.2.2.2.2.2.2.2.2.2.2.2.2.2.2.2.2.2.2.2.2.1, (hb3.cell (p := ⟨g10, 5, none⟩) (show g10 < p2.heap.size by omega)).trans hS.2.2.2.2.2.2.2.2.2.2.2.2.2.2.2.2.2.2.2.2.2.2.2.2.2.2.2.2.2.2.2.2.1, (hb3.cell (p := ⟨g10, 6, none⟩) (show g10 < p2.heap.size by omega)).trans hS.2.2.2.2.2.2.2.2.2.2.2.2.2.2.2.2.2.2.2.2.2.2.2.2.2.2.2.2.2.2.2.2.2.1, (hb3.cell (p := ⟨g10, 7, none⟩) (show g10 < p2.heap.size by omega)).trans hS.2.2.2.2.2.2.2.2.2.2.2.2.2.2.2.2.2.2.2.2.2.2.2.2.2.2.2.2.2.2.2.2.2.2.1, (hb3.cell (p := ⟨g10, 8, none⟩) (show g10 < p2.heap.size by omega)).trans hS.2.2.2.2.2.2.2.2.2.2.2.2.2.2.2.2.2.2.2.2.2.2.2.2.2.2.2.2.2.2.2.2.2.2.2⟩
                        go_simp
                        refine hK _ _ hSn (fun hS => ?_)
                        clear hK K hSn
                        try simp only [List.getElem_toArray, List.getElem_cons_zero, List.getElem_cons_succ, Act.put, List.setIfInBounds_toArray, List.set_cons_zero, List.set_cons_succ]
                        refine wpAnyH_ready (rs := [15]) (by kernel_rfl) (by simp) (AllReadyH.cons rfl (fun K hK => ?_) AllReadyH.nil)
                        go_simp
                        have hSn : (p3.alloc (.cells (flatV [setI 1 x, setI 3 y, rdI y z', endI 4] ++ []).toArray 40)).cell? ⟨g6, 0, none⟩ = some (.int .u8 1) ∧ (p3.alloc (.cells (flatV [setI 1 x, setI 3 y, rdI y z', endI 4] ++ []).toArray 40)).cell? ⟨g6, 1, none⟩ = some (.int .u8 0) ∧ (p3.alloc (.cells (flatV [setI 1 x, setI 3 y, rdI y z', endI 4] ++ []).toArray 40)).cell? ⟨g6, 2, none⟩ = some (.bool false) ∧ (p3.alloc (.cells (flatV [setI 1 x, setI 3 y, rdI y z', endI 4] ++ []).toArray 40)).cell? ⟨g6, 3, none⟩ = some (.int .i64 1) ∧ (p3.alloc (.cells (flatV [setI 1 x, setI 3 y, rdI y z', endI 4] ++ []).toArray 40)).cell? ⟨g6, 4, none⟩ = some (.int .i64 0) ∧ (p3.alloc (.cells (flatV [setI 1 x, setI 3 y, rdI y z', endI 4] ++ []).toArray 40)).cell? ⟨g6, 5, none⟩ = some (.int .i64 0) ∧ (p3.alloc (.cells (flatV [setI 1 x, setI 3 y, rdI y z', endI 4] ++ []).toArray 40)).cell? ⟨g6, 6, none⟩ = some (.int .u64 x) ∧ (p3.alloc (.cells (flatV [setI 1 x, setI 3 y, rdI y z', endI 4] ++ []).toArray 40)).cell? ⟨g6, 7, none⟩ = some (.int .i64 0) ∧ (p3.alloc (.cells (flatV [setI 1 x, setI 3 y, rdI y z', endI 4] ++ []).toArray 40)).cell? ⟨g6, 8, none⟩ = some (.int .i64 0) ∧ (p3.alloc (.cells (flatV [setI 1 x, setI 3 y, rdI y z', endI 4] ++ []).toArray 40)).cell? ⟨g7, 0, none⟩ = some (.int .u8 1) ∧ (p3.alloc (.cells (flatV [setI 1 x, setI 3 y, rdI y z', endI 4] ++ []).toArray 40)).cell? ⟨g7, 1, none⟩ = some (.int .u8 0) ∧ (p3.alloc (.cells (flatV [setI 1 x, setI 3 y, rdI y z', endI 4] ++ []).toArray 40)).cell? ⟨g7, 2, none⟩ = some (.bool false) ∧ (p3.alloc (.cells (flatV [setI 1 x, setI 3 y, rdI y z', endI 4] ++ []).toArray 40)).cell? ⟨g7, 3, none⟩ = some (.int .i64 3) ∧ (p3.alloc (.cells (flatV [setI 1 x, setI 3 y, rdI y z', endI 4] ++ []).toArray 40)).cell? ⟨g7, 4, none⟩ = some (.int .i64 0) ∧ (p3.alloc (.cells (flatV [setI 1 x, setI 3 y, rdI y z', endI 4] ++ []).toArray 40)).cell? ⟨g7, 5, none⟩ = some (.int .i64 0) ∧ (p3.alloc (.cells (flatV [setI 1 x, setI 3 y, rdI y z', endI 4] ++ []).toArray 40)).cell? ⟨g7, 6, none⟩ = some (.int .u64 y) ∧ (p3.alloc (.cells (flatV [setI 1 x, setI 3 y, rdI y z', endI 4] ++ []).toArray 40)).cell? ⟨g7, 7, none⟩ = some (.int .i64 0) ∧ (p3.alloc (.cells (flatV [setI 1 x, setI 3 y, rdI y z', endI 4] ++ []).toArray 40)).cell? ⟨g7, 8, none⟩ = some (.int .i64 0) ∧ (p3.alloc (.cells (flatV [setI 1 x, setI 3 y, rdI y z', endI 4] ++ []).toArray 40)).cell? ⟨g9, 0, none⟩ = some (.int .u8 6) ∧ (p3.alloc (.cells (flatV [setI 1 x, setI 3 y, rdI y z', endI 4] ++ []).toArray 40)).cell? ⟨g9, 1, none⟩ = some (.int .u8 0) ∧ (p3.alloc (.cells (flatV [setI 1 x, setI 3 y, rdI y z', endI 4] ++ []).toArray 40)).cell? ⟨g9, 2, none⟩ = some (.bool false) ∧ (p3.alloc (.cells (flatV [setI 1 x, setI 3 y, rdI y z', endI 4] ++ []).toArray 40)).cell? ⟨g9, 3, none⟩ = some (.int .i64 0) ∧ (p3.alloc (.cells (flatV [setI 1 x, setI 3 y, rdI y z', endI 4] ++ []).toArray 40)).cell? ⟨g9, 4, none⟩ = some (.int .i64 1) ∧ (p3.alloc (.cells (flatV [setI 1 x, setI 3 y, rdI y z', endI 4] ++ []).toArray 40)).cell? ⟨g9, 5, none⟩ = some (.int .i64 3) ∧ (p3.alloc (.cells (flatV [setI 1 x, setI 3 y, rdI y z', endI 4] ++ []).toArray 40)).cell? ⟨g9, 6, none⟩ = some (.int .u64 y) ∧ (p3.alloc (.cells (flatV [setI 1 x, setI 3 y, rdI y z', endI 4] ++ []).toArray 40)).cell? ⟨g9, 7, none⟩ = some (.int .i64 z) ∧ (p3.alloc (.cells (flatV [setI 1 x, setI 3 y, rdI y z', endI 4] ++ []).toArray 40)).cell? ⟨g9, 8, none⟩ = some (.int .i64 0) ∧ (p3.alloc (.cells (flatV [setI 1 x, setI 3 y, rdI y z', endI 4] ++ []).toArray 40)).cell? ⟨g10, 0, none⟩ = some (.int .u8 5) ∧ (p3.alloc (.cells (flatV [setI 1 x, setI 3 y, rdI y z', endI 4] ++ []).toArray 40)).cell? ⟨g10, 1, none⟩ = some (.int .u8 0) ∧ (p3.alloc (.cells (flatV [setI 1 x, setI 3 y, rdI y z', endI 4] ++ []).toArray 40)).cell? ⟨g10, 2, none⟩ = some (.bool false) ∧ (p3.alloc (.cells (flatV [setI 1 x, setI 3 y, rdI y z', endI 4] ++ []).toArray 40)).cell? ⟨g10, 3, none⟩ = some (.int .i64 4) ∧ (p3.alloc (.cells (flatV [setI 1 x, setI 3 y, rdI y z', endI 4] ++ []).toArray 40)).cell? ⟨g10, 4, none⟩ = some (.int .i64 1) ∧ (p3.alloc (.cells (flatV [setI 1 x, setI 3 y, rdI y z', endI 4] ++ []).toArray 40)).cell? ⟨g10, 5, none⟩ = some (.int .i64 0) ∧ (p3.alloc (.cells (flatV [setI 1 x, setI 3 y, rdI y z', endI 4] ++ []).toArray 40)).cell? ⟨g10, 6, none⟩ = some (.int .u64 y) ∧ (p3.alloc (.cells (flatV [setI 1 x, setI 3 y, rdI y z', endI 4] ++ []).toArray 40)).cell? ⟨g10, 7, none⟩ = some (.int .i64 z') ∧ (p3.alloc (.cells (flatV [setI 1 x, setI 3 y, rdI y z', endI 4] ++ []).toArray 40)).cell? ⟨g10, 8, none⟩ = some (.int .i64 0) := ⟨(World.cell?_alloc_past _ _ _ (show g6 < p3.heap.size by omega)).trans hS.1, (World.cell?_alloc_past _ _ _ (show g6 < p3.heap.size by omega)).trans hS.2.1, (World.cell?_alloc_past _ _ _ (show g6 < p3.heap.size by omega)).trans hS.2.2.1, (World.cell?_alloc_past _ _ _ (show g6 < p3.heap.size by omega)).trans hS.2.2.2.1, (World.cell?_alloc_past _ _ _ (show g6 < p3.heap.size by omega)).trans hS.2.2.2.2.1, (World.cell?_alloc_past _ _ _ (show g6 < p3.heap.size by omega)).trans hS.2.2.2.2.2.1, (World.cell?_alloc_past _ _ _ (show g6 < p3.heap.size by omega)).trans hS.2.2.2.2.2.2.1, (World.cell?_alloc_past _ _ _ (show g6 < p3.heap.size by omega)).trans hS.2.2.2.2.2.2.2.1, (World.cell?_alloc_past _ _ _ (show g6 < p3.heap.size by omega)).trans hS.2.2.2.2.2.2.2.2.1, (World.cell?_alloc_past _ _ _ (show g7 < p3.heap.size by omega)).trans hS.2.2.2.2.2.2.2.2.2.1, (World.cell?_alloc_past _ _ _ (show g7 < p3.heap.size by omega)).trans hS.2.2.2.2.2.2.2.2.2.2.1, (World.cell?_alloc_past _ _ _ (show g7 < p3.heap.size by omega)).trans hS.2.2.2.2.2.2.2.2.2.2.2.1, (World.cell?_alloc_past _ _ _ (show g7 < p3.heap.size by omega)).trans hS.2.2.2.2.2.2.2.2.2.2.2.2.1, (World.cell?_alloc_past _ _ _ (show g7 < p3.heap.size by omega)).trans hS.2.2.2.2.2.2.2.2.2.2.2.2.2.1, (World.cell?_alloc_past _ _ _ (show g7 < p3.heap.size by omega)).trans hS.2.2.2.2.2.2.2.2.2.2.2.2.2.2.1, (World.cell?_alloc_past _ _ _ (show g7 < p3.heap.size by omega)).trans hS.2.2.2.2.2.2.2.2.2.2.2.2.2.2.2.1, (World.cell?_alloc_past _ _ _ (show g7 < p3.heap.size by omega)).trans hS.2.2.2.2.2.2.2.2.2.2.2.2.2.2.2.2.1, (World.cell?_alloc_past _ _ _ (show g7 < p3.heap.size by omega)).trans hS.2.2.2.2.2.2.2.2.2.2.2.2.2.2.2.2.2.1, (World.cell?_alloc_past _ _ _ (show g9 < p3.heap.size by omega)).trans hS.2.2.2.2.2.2.2.2.2.2.2.2.2.2.2.2.2.2.1, (World.cell?_alloc_past _ _ _ (show g9 < p3.heap.size by omega)).trans hS.2.2.2.2.2.2.2.2.2.2.2.2.2.2.2.2.2.2.2.1, (World.cell?_alloc_past _ _ _ (show g9 < p3.heap.size by omega)).trans hS.2.2.2.2.2.2.2.2.2.2.2.2.2.2.2.2.2.2.2.2.1, (World.cell?_alloc_past _ _ _ (show g9 < p3.heap.size by omega)).trans hS.2.2.2.2.2.2.2.2.2.2.2.2.2.2.2.2.2.2.2.2.2.1, (World.cell?_alloc_past _ _ _ (show g9 < p3.heap.size by omega)).trans hS.2.2.2.2.2.2.2.2.2.2.2.2.2.2.2.2.2.2.2.2.2.2.1, (World.cell?_alloc_past _ _ _ (show g9 < p3.heap.size by omega)).trans hS.2.2.2.2.2.2.2.2.2.2.2.2.2.2.2.2.2.2.2.2.2.2.2.1, (World.cell?_alloc_past _ _ _ (show g9 < p3.heap.size by omega)).trans hS.2.2.2.2.2.2.2.2.2.2.2.2.2.2.2.2.2.2.2.2.2.2.2.2.1, (World.cell?_alloc_past _ _ _ (show g9 < p3.heap.size by omega)).trans hS.2.2.2.2.2.2.2.2.2.2.2.2.2.2.2.2.2.2.2.2.2.2.2.2.2.1, (World.cell?_alloc_past _ _ _ (show g9 < p3.heap.size by omega)).trans hS.2.2.2.2.2.2.2.2.2.2.2.2.2.2.2.2.2.2.2.2.2.2.2.2.2.2.1, (World.cell?_alloc_past _ _ _ (show g10 < p3.heap.size by omega)).trans hS.2.2.2.2.2.2.2.2.2.2.2.2.2.2.2.2.2.2.2.2.2.2.2.2.2.2.2.1, (World.cell?_alloc_past _ _ _ (show g10 < p3.heap.size by omega)).trans hS.2.2.2.2.2.2.2.2.2.2.2.2.2.2.2.2.2.2.2.2.2.2.2.2.2.2.2.2.1, (World.cell?_alloc_past _ _ _ (show g10 < p3.heap.size by omega)).trans hS.2.2.2.2.2.2.2.2.2.2.2.2.2.2.2.2.2.2.2.2.2.2.2.2.2.2.2.2.2.1, (World.cell?_alloc_past _ _ _ (show g10 < p3.heap.size by omega)).trans hS.2.2.2.2.2.2.2.2.2.2.2.2.2.2.2.2.2.2.2.2.2.2.2.2.2.2.2.2.2.2.1, (World.cell?_alloc_past _ _ _ (show g10 < p3.heap.size by omega)).trans hS.2.2.2.2.2.2.2.2.2.2.2.2.2.2.2.2.2.2.2.2.2.2.2.2.2.2.2.2.2.2.2.1, (World.cell?_alloc_past _ _ _ (show g10 < p3.heap.size by omega)).trans hS.2.2.2.2.2.2.2.2.2.2.2.2.2.2.2.2.2.2.2.2.2.2.2.2.2.2.2.2.2.2.2.2.1, (World.cell?_alloc_past _ _ _ (show g10 < p3.heap.size by omega)).trans hS.2.2.2.2.2.2.2.2.2.2.2.2.2.2.2.2.2.2.2.2.2.2.2.2.2.2.2.2.2.2.2.2.2.1, (World.cell?_alloc_past _ _ _ (show g10 < p3.heap.size by omega)).trans hS.2.2.2.2.2.2.2.2.2.2.2.2.2.2.2.2.2.2.2.2.2.2.2.2.2.2.2.2.2.2.2.2.2.2.1, (World.cell?_alloc_past _ _ _ (show g10 < p3.heap.size by omega)).trans hS.2.2.2.2.2.2.2.2.2.2.2.2.2.2.2.2.2.2.2.2.2.2.2.2.2.2.2.2.2.2.2.2.2.2.2⟩
                        refine hK _ _ hSn (fun hS => ?_)
                        clear hK K hSn
                        try simp only [List.getElem_toArray, List.getElem_cons_zero, List.getElem_cons_succ, Act.put, List.setIfInBounds_toArray, List.set_cons_zero, List.set_cons_succ]
                        refine wpAnyH_ready (rs := [16]) (by kernel_rfl) (by simp) (AllReadyH.cons rfl (fun K hK => ?_) AllReadyH.nil)
                        have hw13 : Below wn.heap.size wn p3 := (Below.refl _ _).drew.trans (hb1.trans ((((Below.refl _ _).alloc (Nat.le_refl _) _).trans (hb2.mono (by simp))).trans (hb3.mono (by omega)) |>.mono hq1))
                        go_simp
                        refine (doesF_any (some ⟨p3.heap.size, 0, none⟩) 4 [setI 1 x, setI 3 y, rdI y z', endI 4] (some ⟨w.heap.size, 0, none⟩) 9 pkN _ (inss_bk (ext := []) (Bk.new p3 40 (flatV [setI 1 x, setI 3 y, rdI y z', endI 4] ++ [])) (by simp) (by decide)) HOK4.out (bk_rd ((HP4.out.below hw13 HP4.out.lt).alloc _) 9) (by decide) (by decide)).mono ?_
                        rintro _ p4 ⟨rfl, hb4⟩
                        have hSn : p4.cell? ⟨g6, 0, none⟩ = some (.int .u8 1) ∧ p4.cell? ⟨g6, 1, none⟩ = some (.int .u8 0) ∧ p4.cell? ⟨g6, 2, none⟩ = some (.bool false) ∧ p4.cell? ⟨g6, 3, none⟩ = some (.int .i64 1) ∧ p4.cell? ⟨g6, 4, none⟩ = some (.int .i64 0) ∧ p4.cell? ⟨g6, 5, none⟩ = some (.int .i64 0) ∧ p4.cell? ⟨g6, 6, none⟩ = some (.int .u64 x) ∧ p4.cell? ⟨g6, 7, none⟩ = some (.int .i64 0) ∧ p4.cell? ⟨g6, 8, none⟩ = some (.int .i64 0) ∧ p4.cell? ⟨g7, 0, none⟩ = some (.int .u8 1) ∧ p4.cell? ⟨g7, 1, none⟩ = some (.int .u8 0) ∧ p4.cell? ⟨g7, 2, none⟩ = some (.bool false) ∧ p4.cell? ⟨g7, 3, none⟩ = some (.int .i64 3) ∧ p4.cell? ⟨g7, 4, none⟩ = some (.int .i64 0) ∧ p4.cell? ⟨g7, 5, none⟩ = some (.int .i64 0) ∧ p4.cell? ⟨g7, 6, none⟩ = some (.int .u64 y) ∧ p4.cell? ⟨g7, 7, none⟩ = some (.int .i64 0) ∧ p4.cell? ⟨g7, 8, none⟩ = some (.int .i64 0) ∧ p4.cell? ⟨g9, 0, none⟩ = some (.int .u8 6) ∧ p4.cell? ⟨g9, 1, none⟩ = some (.int .u8 0) ∧ p4.cell? ⟨g9, 2, none⟩ = some (.bool false) ∧ p4.cell? ⟨g9, 3, none⟩ = some (.int .i64 0) ∧ p4.cell? ⟨g9, 4, none⟩ = some (.int .i64 1) ∧ p4.cell? ⟨g9, 5, none⟩ = some (.int .i64 3) ∧ p4.cell? ⟨g9, 6, none⟩ = some (.int .u64 y) ∧ p4.cell? ⟨g9, 7, none⟩ = some (.int .i64 z) ∧ p4.cell? ⟨g9, 8, none⟩ = some (.int .i64 0) ∧ p4.cell? ⟨g10, 0, none⟩ = some (.int .u8 5) ∧ p4.cell? ⟨g10, 1, none⟩ = some (.int .u8 0) ∧ p4.cell? ⟨g10, 2, none⟩ = some (.bool false) ∧ p4.cell? ⟨g10, 3, none⟩ = some (.int .i64 4) ∧ p4.cell? ⟨g10, 4, none⟩ = some (.int .i64 1) ∧ p4.cell? ⟨g10, 5, none⟩ = some (.int .i64 0) ∧ p4.cell? ⟨g10, 6, none⟩ = some (.int .u64 y) ∧ p4.cell? ⟨g10, 7, none⟩ = some (.int .i64 z') ∧ p4.cell? ⟨g10, 8, none⟩ = some (.int .i64 0) := ⟨(hb4.cell (p := ⟨g6, 0, none⟩) (by simp; omega)).trans hS.1, (hb4.cell (p := ⟨g6, 1, none⟩) (by simp; omega)).trans hS.2.1, (hb4.cell (p := ⟨g6, 2, none⟩) (by simp; omega)).trans hS.2.2.1, (hb4.cell (p := ⟨g6, 3, none⟩) (by simp; omega)).trans hS.2.2.2.1, (hb4.cell (p := ⟨g6, 4, none⟩) (by simp; omega)).trans hS.2.2.2.2.1, (hb4.cell (p := ⟨g6, 5, none⟩) (by simp; omega)).trans hS.2.2.2.2.2.1, (hb4.cell (p := ⟨g6, 6, none⟩) (by simp; omega)).trans hS.2.2.2.2.2.2.1, (hb4.cell (p := ⟨g6, 7, none⟩) (by simp; omega)).trans hS.2.2.2.2.2.2.2.1, (hb4.cell (p := ⟨g6, 8, none⟩) (by simp; omega)).trans hS.2.2.2.2.2.2.2.2.1, (hb4.cell (p := ⟨g7, 0, none⟩) (by simp; omega)).trans hS.2.2.2.2.2.2.2.2.2.1, (hb4.cell (p := ⟨g7, 1, none⟩) (by simp; omega)).trans hS.2.2.2.2.2.2.2.2.2.2.1, (hb4.cell (p := ⟨g7, 2, none⟩) (by simp; omega)).trans hS.2.2.2.2.2.2.2.2.2.2.2.1, (hb4.cell (p := ⟨g7, 3, none⟩) (by simp; omega)).trans hS.2.2.2.2.2.2.2.2.2.2.2.2.1, (hb4.cell (p := ⟨g7, 4, none⟩) (by simp; omega)).trans hS.2.2.2.2.2.2.2.2.2.2.2.2.2.1, (hb4.cell (p := ⟨g7, 5, none⟩) (by simp; omega)).trans hS.2.2.2.2.2.2.2.2.2.2.2.2.2.2.1, (hb4.cell (p := ⟨g7, 6, none⟩) (by simp; omega)).trans hS.2.2.2.2.2.2.2.2.2.2.2.2.2.2.2.1, (hb4.cell (p := ⟨g7, 7, none⟩) (by simp; omega)).trans hS.2.2.2.2.2.2.2.2.2.2.2.2.2.2.2.2.1, (hb4.cell (p := ⟨g7, 8, none⟩) (by simp; omega)).trans hS.2.2.2.2.2.2.2.2.2.2.2.2.2.2.2.2.2.1, (hb4.cell (p := ⟨g9, 0, none⟩) (by simp; omega)).trans hS.2.2.2.2.2.2.2.2.2.2.2.2.2.2.2.2.2.2.1, (hb4.cell (p := ⟨g9, 1, none⟩) (by simp; omega)).trans hS.2.2.2.2.2.2.2.2.2.2.2.2.2.2.2.2.2.2.2.1, (hb4.cell (p := ⟨g9, 2, none⟩) (by simp; omega)).trans hS.2.2.2.2.2.2.2.2.2.2.2.2.2.2.2.2.2.2.2.2.1, (hb4.cell (p := ⟨g9, 3, none⟩) (by simp; omega)).trans hS.2.2.2.2.2.2.2.2.2.2.2.2.2.2.2.2.2.2.2.2.2.1, (hb4.cell (p := ⟨g9, 4, none⟩) (by simp; omega)).trans hS.2.2.2.2.2.2.2.2.2.2.2.2.2.2.2.2.2.2.2.2.2.2.1, (hb4.cell (p := ⟨g9, 5, none⟩) (by simp; omega)).trans hS.2.2.2.2.2.2.2.2.2.2.2.2.2.2.2.2.2.2.2.2.2.2.2.1, (hb4.cell (p := ⟨g9, 6, none⟩) (by simp; omega)).trans hS.2.2.2.2.2.2.2.2.2.2.2.2.2.2.2.2.2.2.2.2.2.2.2.2.1, (hb4.cell (p := ⟨g9, 7, none⟩) (by simp; omega)).trans hS.2.2.2.2.2.2.2.2.2.2.2.2.2.2.2.2.2.2.2.2.2.2.2.2.2.1, (hb4.cell (p := ⟨g9, 8, none⟩) (by simp; omega)).trans hS.2.2.2.2.2.2.2.2.2.2.2.2.2.2.2.2.2.2.2.2.2.2.2.2.2.2.1, (hb4.cell (p := ⟨g10, 0, none⟩) (by simp; omega)).trans hS.2.2.2.2.2.2.2.2.2.2.2.2.2.2.2.2.2.2.2.2.2.2.2.2.2.2.2.1, (hb4.cell (p := ⟨g10, 1, none⟩) (by simp; omega)).trans hS.2.2.2.2.2.2.2.2.2.2.2.2.2.2.2.2.2.2.2.2.2.2.2.2.2.2.2.2.1, (hb4.cell (p := ⟨g10, 2, none⟩) (by simp; omega)).trans hS.2.2.2.2.2.2.2.2.2.2.2.2.2.2.2.2.2.2.2.2.2.2.2.2.2.2.2.2.2.1, (hb4.cell (p := ⟨g10, 3, none⟩) (by simp; omega)).trans hS.2.2.2.2.2.2.2.2.2.2.2.2.2.2.2.2.2.2.2.2.2.2.2.2.2.2.2.2.2.2.1, (hb4.cell (p := ⟨g10, 4, none⟩) (by simp; omega)).trans hS.2.2.2.2.2.2.2.2.2.2.2.2.2.2.2.2.2.2.2.2.2.2.2.2.2.2.2.2.2.2.2.1, (hb4.cell (p := ⟨g10, 5, none⟩) (by simp; omega)).trans hS.2.2.2.2.2.2.2.2.2.2.2.2.2.2.2.2.2.2.2.2.2.2.2.2.2.2.2.2.2.2.2.2.1, (hb4.cell (p := ⟨g10, 6, none⟩) (by simp; omega)).trans hS.2.2.2.2.2.2.2.2.2.2.2.2.2.2.2.2.2.2.2.2.2.2.2.2.2.2.2.2.2.2.2.2.2.1, (hb4.cell (p := ⟨g10, 7, none⟩) (by simp; omega)).trans hS.2.2.2.2.2.2.2.2.2.2.2.2.2.2.2.2.2.2.2.2.2.2.2.2.2.2.2.2.2.2.2.2.2.2.1, (hb4.cell (p := ⟨g10, 8, none⟩) (by simp; omega)).trans hS.2.2.2.2.2.2.2.2.2.2.2.2.2.2.2.2.2.2.2.2.2.2.2.2.2.2.2.2.2.2.2.2.2.2.2⟩
                        have HE18 : Hid (Below wn.heap.size wn p4) := Lib.hid (hw13.trans (((Below.refl _ _).alloc (Nat.le_refl _) _).trans (hb4.mono (by simp)) |>.mono (by omega)))
                        go_simp
                        refine hK _ _ hSn (fun hS => ?_)
                        clear hK K hSn
                        try simp only [List.getElem_toArray, List.getElem_cons_zero, List.getElem_cons_succ, Act.put, List.setIfInBounds_toArray, List.set_cons_zero, List.set_cons_succ]
                        refine wpAnyH_take (i := 17) (v := ?_) rfl (by kernel_rfl) (by kernel_rfl) (by kernel_rfl) (fun _ _ _ h => h) (Or.inl ⟨by go_simp, ?_⟩) hS ?_
                        rotate_left 1
                        · intro w' hSw
                          go_simp <;> with_reducible rfl
                        try simp only [List.getElem_toArray, List.getElem_cons_zero, List.getElem_cons_succ, Act.put, List.setIfInBounds_toArray, List.set_cons_zero, List.set_cons_succ]
                        refine wpAnyH_take (i := 18) (v := ?_) rfl (by kernel_rfl) (by kernel_rfl) (by kernel_rfl) (fun _ _ _ h => h) (Or.inl ⟨by rfl, ?_⟩) hS ?_
                        rotate_left 1
                        · intro w' hSw
                          go_simp <;> with_reducible rfl
                        try simp only [List.getElem_toArray, List.getElem_cons_zero, List.getElem_cons_succ, Act.put, List.setIfInBounds_toArray, List.set_cons_zero, List.set_cons_succ]
                        refine wpAnyH_done (by kernel_rfl) ?_ _
                        go_wp2_with fail
                        go_meet
                        exact ⟨rfl, HE18.out⟩
                      case rest =>
                        obtain ⟨rfl, hb5⟩ := hcut
                        go_wp2_with fail
                        go_roundw
                        case rel => exact ⟨s + 1, by omega, by go_num, HKB.out.trans ((HKN.out.trans (hb5.mono (by have := HKN.out.size; omega))).mono (by have := HKB.out.size; omega))⟩
                        case measure => simp [intOf]; omega
              · have d3 : decide ((s : Int) < 4) = false := decide_eq_false (by omega)
                go_wp2_with fail
                go_loopw [11] (fun v wx => ∃ o : Nat, 1 ≤ o ∧ o ≤ 28 ∧ v = .int .u8 o ∧ Below wc.heap.size wc wx) (fun v _ => 28 - (intOf v).toNat)
                case atStart => exact ⟨1, by omega, by omega, rfl, hbr⟩
                case round =>
                  obtain ⟨o, ho1, ho2, rfl, hbo⟩ := hrel
                  obtain ⟨wp, rfl⟩ : ∃ wp : World, wp = wr := ⟨_, rfl⟩
                  clear hbr d3
                  have HKO := Lib.hid hbo
                  have HK6 := Lib.hid (H6.out.below hbo H6.out.lt)
                  have HK7 := Lib.hid (H7.out.below hbo H7.out.lt)
                  have HP5 := Lib.hid ((HN.out.below HC1.out).below hbo).p
                  have hea := fun a W => end_any a W
                  simp only [insA, insV, endI] at hea
                  have HEA := Lib.hid hea
                  clear hbo hea
                  have o1 : (1 : Int) ≤ (o : Int) := by omega
                  by_cases hlo : o ≤ 27
                  · have d4 : decide ((o : Int) ≤ 27) = true := decide_eq_true (by omega)
                    have o2 : (o : Int) ≤ 27 := by omega
                    by_cases h13 : o = 13
                    · have q1 : ((o : Int) == 13) = true := by rw [h13]; rfl
                      have q2 : decide ((13 : Int) < (o : Int)) = false := decide_eq_false (by omega)
                      clear h13
                      have h12 : Bk (wp.alloc (.cells #[.int .u8 3, .int .u8 (o : Int), .bool ((k : Int) % 2 == 0), .int .i64 4, .int .i64 1, .int .i64 0, .int .u64 0, .int .i64 0, .int .i64 0] 40)) wp.heap.size 40 (insV (⟨3, (o : Int), ((k : Int) % 2 == 0), 4, 1, 0, 0, 0, 0⟩ : Ins)) := Bk.new wp 40 (insV (⟨3, (o : Int), ((k : Int) % 2 == 0), 4, 1, 0, 0, 0, 0⟩ : Ins))
                      have hqb : Below wp.heap.size wp (wp.alloc (.cells #[.int .u8 3, .int .u8 (o : Int), .bool ((k : Int) % 2 == 0), .int .i64 4, .int .i64 1, .int .i64 0, .int .u64 0, .int .i64 0, .int .i64 0] 40)) := (Below.refl _ _).alloc (Nat.le_refl _) _
                      go_upto_region 28 with (fail)
                      generalize wp.alloc (.cells #[.int .u8 3, .int .u8 (o : Int), .bool ((k : Int) % 2 == 0), .int .i64 4, .int .i64 1, .int .i64 0, .int .u64 0, .int .i64 0, .int .i64 0] 40) = wq at *
                      have hqs := hqb.size
                      have h6 := HK6.out.below hqb HK6.out.lt
                      have h7 := HK7.out.below hqb HK7.out.lt
                      have HPQ := Lib.hid (HP5.out.below hqb HP5.out.lt)
                      have HQB := Lib.hid hqb
                      have l6 := h6.lt
                      have l7 := h7.lt
                      have l12 := h12.lt
                      have hS0 := s27 h6 h7 h12
                      have okF : ∀ f ∈ [setI 1 x, setI 3 y, (⟨3, (o : Int), ((k : Int) % 2 == 0), 4, 1, 0, 0, 0, 0⟩ : Ins), endI 15, endI 4], InsOk f := by
                        intro f hf
                        simp at hf
                        rcases hf with rfl | rfl | rfl | rfl | rfl
                        · exact okS _ _ x0 x1
                        · exact okS _ _ y0 y1
                        · exact ⟨by show (0 : Int) ≤ (o : Int); omega, Int.le_refl 0, by show (0 : Int) ≤ _; omega⟩
                        · exact okE 15
                        · exact okE 4
                      have HOKF := Lib.hid okF
                      clear okF h6 h7 h12 hqb
                      go_cut [123] (fun v wx => v = .bool false ∧ Below wq.heap.size wq wx)
                      case first =>
                        refine wp_region_held_drew (S := fun w' => w'.cell? ⟨g6, 0, none⟩ = some (.int .u8 1) ∧ w'.cell? ⟨g6, 1, none⟩ = some (.int .u8 0) ∧ w'.cell? ⟨g6, 2, none⟩ = some (.bool false) ∧ w'.cell? ⟨g6, 3, none⟩ = some (.int .i64 1) ∧ w'.cell? ⟨g6, 4, none⟩ = some (.int .i64 0) ∧ w'.cell? ⟨g6, 5, none⟩ = some (.int .i64 0) ∧ w'.cell? ⟨g6, 6, none⟩ = some (.int .u64 x) ∧ w'.cell? ⟨g6, 7, none⟩ = some (.int .i64 0) ∧ w'.cell? ⟨g6, 8, none⟩ = some (.int .i64 0) ∧ w'.cell? ⟨g7, 0, none⟩ = some (.int .u8 1) ∧ w'.cell? ⟨g7, 1, none⟩ = some (.int .u8 0) ∧ w'.cell? ⟨g7, 2, none⟩ = some (.bool false) ∧ w'.cell? ⟨g7, 3, none⟩ = some (.int .i64 3) ∧ w'.cell? ⟨g7, 4, none⟩ = some (.int .i64 0) ∧ w'.cell? ⟨g7, 5, none⟩ = some (.int .i64 0) ∧ w'.cell? ⟨g7, 6, none⟩ = some (.int .u64 y) ∧ w'.cell? ⟨g7, 7, none⟩ = some (.int .i64 0) ∧ w'.cell? ⟨g7, 8, none⟩ = some (.int .i64 0) ∧ w'.cell? ⟨wp.heap.size, 0, none⟩ = some (.int .u8 3) ∧ w'.cell? ⟨wp.heap.size, 1, none⟩ = some (.int .u8 (o : Int)) ∧ w'.cell? ⟨wp.heap.size, 2, none⟩ = some (.bool ((k : Int) % 2 == 0)) ∧ w'.cell? ⟨wp.heap.size, 3, none⟩ = some (.int .i64 4) ∧ w'.cell? ⟨wp.heap.size, 4, none⟩ = some (.int .i64 1) ∧ w'.cell? ⟨wp.heap.size, 5, none⟩ = some (.int .i64 0) ∧ w'.cell? ⟨wp.heap.size, 6, none⟩ = some (.int .u64 0) ∧ w'.cell? ⟨wp.heap.size, 7, none⟩ = some (.int .i64 0) ∧ w'.cell? ⟨wp.heap.size, 8, none⟩ = some (.int .i64 0)) (by kernel_rfl) hS0 (fun hS => ?_)
                        refine wpAnyH_take (i := 0) (v := ?_) rfl (by kernel_rfl) (by kernel_rfl) (by kernel_rfl) (fun _ _ _ h => h) (Or.inl ⟨by rfl, ?_⟩) hS ?_
                        rotate_left 1
                        · intro w' hSw
                          go_simp <;> with_reducible rfl
                        try simp only [List.getElem_toArray, List.getElem_cons_zero, List.getElem_cons_succ, Act.put, List.setIfInBounds_toArray, List.set_cons_zero, List.set_cons_succ]
                        refine wpAnyH_take (i := 1) (v := ?_) rfl (by kernel_rfl) (by kernel_rfl) (by kernel_rfl) (fun _ _ _ h => h) (Or.inl ⟨by rfl, ?_⟩) hS ?_
                        rotate_left 1
                        · intro w' hSw
                          go_simp <;> with_reducible rfl
                        try simp only [List.getElem_toArray, List.getElem_cons_zero, List.getElem_cons_succ, Act.put, List.setIfInBounds_toArray, List.set_cons_zero, List.set_cons_succ]
                        refine wpAnyH_take (i := 2) (v := ?_) rfl (by kernel_rfl) (by kernel_rfl) (by kernel_rfl) (fun _ _ _ h => h) (Or.inl ⟨by rfl, ?_⟩) hS ?_
                        rotate_left 1
                        · intro w' hSw
                          go_simp <;> with_reducible rfl
                        try simp only [List.getElem_toArray, List.getElem_cons_zero, List.getElem_cons_succ, Act.put, List.setIfInBounds_toArray, List.set_cons_zero, List.set_cons_succ]
                        refine wpAnyH_take (i := 3) (v := ?_) rfl (by kernel_rfl) (by kernel_rfl) (by kernel_rfl) (fun _ _ _ h => h) (Or.inl ⟨by rfl, ?_⟩) hS ?_
                        rotate_left 1
                        · intro w' hSw
                          go_simp <;> with_reducible rfl
                        try simp only [List.getElem_toArray, List.getElem_cons_zero, List.getElem_cons_succ, Act.put, List.setIfInBounds_toArray, List.set_cons_zero, List.set_cons_succ]
                        refine wpAnyH_ready (rs := [4]) (by kernel_rfl) (by simp) (AllReadyH.cons rfl (fun K hK => ?_) AllReadyH.nil)
                        go_simp
                        refine (HEA.out _ _).mono ?_
                        rintro _ p1 ⟨rfl, hb1⟩
                        have hq1 : wq.heap.size ≤ p1.heap.size := hb1.size
                        have hSn : p1.cell? ⟨g6, 0, none⟩ = some (.int .u8 1) ∧ p1.cell? ⟨g6, 1, none⟩ = some (.int .u8 0) ∧ p1.cell? ⟨g6, 2, none⟩ = some (.bool false) ∧ p1.cell? ⟨g6, 3, none⟩ = some (.int .i64 1) ∧ p1.cell? ⟨g6, 4, none⟩ = some (.int .i64 0) ∧ p1.cell? ⟨g6, 5, none⟩ = some (.int .i64 0) ∧ p1.cell? ⟨g6, 6, none⟩ = some (.int .u64 x) ∧ p1.cell? ⟨g6, 7, none⟩ = some (.int .i64 0) ∧ p1.cell? ⟨g6, 8, none⟩ = some (.int .i64 0) ∧ p1.cell? ⟨g7, 0, none⟩ = some (.int .u8 1) ∧ p1.cell? ⟨g7, 1, none⟩ = some (.int .u8 0) ∧ p1.cell? ⟨g7, 2, none⟩ = some (.bool false) ∧ p1.cell? ⟨g7, 3, none⟩ = some (.int .i64 3) ∧ p1.cell? ⟨g7, 4, none⟩ = some (.int .i64 0) ∧ p1.cell? ⟨g7, 5, none⟩ = some (.int .i64 0) ∧ p1.cell? ⟨g7, 6, none⟩ = some (.int .u64 y) ∧ p1.cell? ⟨g7, 7, none⟩ = some (.int .i64 0) ∧ p1.cell? ⟨g7, 8, none⟩ = some (.int .i64 0) ∧ p1.cell? ⟨wp.heap.size, 0, none⟩ = some (.int .u8 3) ∧ p1.cell? ⟨wp.heap.size, 1, none⟩ = some (.int .u8 (o : Int)) ∧ p1.cell? ⟨wp.heap.size, 2, none⟩ = some (.bool ((k : Int) % 2 == 0)) ∧ p1.cell? ⟨wp.heap.size, 3, none⟩ = some (.int .i64 4) ∧ p1.cell? ⟨wp.heap.size, 4, none⟩ = some (.int .i64 1) ∧ p1.cell? ⟨wp.heap.size, 5, none⟩ = some (.int .i64 0) ∧ p1.cell? ⟨wp.heap.size, 6, none⟩ = some (.int .u64 0) ∧ p1.cell? ⟨wp.heap.size, 7, none⟩ = some (.int .i64 0) ∧ p1.cell? ⟨wp.heap.size, 8, none⟩ = some (.int .i64 0) := ⟨(hb1.cell (p := ⟨g6, 0, none⟩) (show g6 < wq.heap.size from l6)).trans hS.1, (hb1.cell (p := ⟨g6, 1, none⟩) (show g6 < wq.heap.size from l6)).trans hS.2.1, (hb1.cell (p := ⟨g6, 2, none⟩) (show g6 < wq.heap.size from l6)).trans hS.2.2.1, (hb1.cell (p := ⟨g6, 3, none⟩) (show g6 < wq.heap.size from l6)).trans hS.2.2.2.1, (hb1.cell (p := ⟨g6, 4, none⟩) (show g6 < wq.heap.size from l6)).trans hS.2.2.2.2.1, (hb1.cell (p := ⟨g6, 5, none⟩) (show g6 < wq.heap.size from l6)).trans hS.2.2.2.2.2.1, (hb1.cell (p := ⟨g6, 6, none⟩) (show g6 < wq.heap.size from l6)).trans hS.2.2.2.2.2.2.1, (hb1.cell (p := ⟨g6, 7, none⟩) (show g6 < wq.heap.size from l6)).trans hS.2.2.2.2.2.2.2.1, (hb1.cell (p := ⟨g6, 8, none⟩) (show g6 < wq.heap.size from l6)).trans hS.2.2.2.2.2.2.2.2.1, (hb1.cell (p := ⟨g7, 0, none⟩) (show g7 < wq.heap.size from l7)).trans hS.2.2.2.2.2.2.2.2.2.1, (hb1.cell (p := ⟨g7, 1, none⟩) (show g7 < wq.heap.size from l7)).trans hS.2.2.2.2.2.2.2.2.2.2.1, (hb1.cell (p := ⟨g7, 2, none⟩) (show g7 < wq.heap.size from l7)).trans hS.2.2.2.2.2.2.2.2.2.2.2.1, (hb1.cell (p := ⟨g7, 3, none⟩) (show g7 < wq.heap.size from l7)).trans hS.2.2.2.2.2.2.2.2.2.2.2.2.1, (hb1.cell (p := ⟨g7, 4, none⟩) (show g7 < wq.heap.size from l7)).trans hS.2.2.2.2.2.2.2.2.2.2.2.2.2.1, (hb1.cell (p := ⟨g7, 5, none⟩) (show g7 < wq.heap.size from l7)).trans hS.2.2.2.2.2.2.2.2.2.2.2.2.2.2.1, (hb1.cell (p := ⟨g7, 6, none⟩) (show g7 < wq.heap.size from l7)).trans hS.2.2.2.2.2.2.2.2.2.2.2.2.2.2.2.1, (hb1.cell (p := ⟨g7, 7, none⟩) (show g7 < wq.heap.size from l7)).trans hS.2.2.2.2.2.2.2.2.2.2.2.2.2.2.2.2.1, (hb1.cell (p := ⟨g7, 8, none⟩) (show g7 < wq.heap.size from l7)).trans hS.2.2.2.2.2.2.2.2.2.2.2.2.2.2.2.2.2.1, (hb1.cell (p := ⟨wp.heap.size, 0, none⟩) (show wp.heap.size < wq.heap.size from l12)).trans hS.2.2.2.2.2.2.2.2.2.2.2.2.2.2.2.2.2.2.1, (hb1.cell (p := ⟨wp.heap.size, 1, none⟩) (show wp.heap.size < wq.heap.size from l12)).trans hS.2.2.2.2.2.2.2.2.2.2.2.2.2.2.2.2.2.2.2.1, (hb1.cell (p := ⟨wp.heap.size, 2, none⟩) (show wp.heap.size < wq.heap.size from l12)).trans hS.2.2.2.2.2.2.2.2.2.2.2.2.2.2.2.2.2.2.2.2.1, (hb1.cell (p := ⟨wp.heap.size, 3, none⟩) (show wp.heap.size < wq.heap.size from l12)).trans hS.2.2.2.2.2.2.2.2.2.2.2.2.2.2.2.2.2.2.2.2.2.1, (hb1.cell (p := ⟨wp.heap.size, 4, none⟩) (show wp.heap.size < wq.heap.size from l12)).trans hS.2.2.2.2.2.2.2.2.2.2.2.2.2.2.2.2.2.2.2.2.2.2.1, (hb1.cell (p := ⟨wp.heap.size, 5, none⟩) (show wp.heap.size < wq.heap.size from l12)).trans hS.2.2.2.2.2.2.2.2.2.2.2.2.2.2.2.2.2.2.2.2.2.2.2.1, (hb1.cell (p := ⟨wp.heap.size, 6, none⟩) (show wp.heap.size < wq.heap.size from l12)).trans hS.2.2.2.2.2.2.2.2.2.2.2.2.2.2.2.2.2.2.2.2.2.2.2.2.1, (hb1.cell (p := ⟨wp.heap.size, 7, none⟩) (show wp.heap.size < wq.heap.size from l12)).trans hS.2.2.2.2.2.2.2.2.2.2.2.2.2.2.2.2.2.2.2.2.2.2.2.2.2.1, (hb1.cell (p := ⟨wp.heap.size, 8, none⟩) (show wp.heap.size < wq.heap.size from l12)).trans hS.2.2.2.2.2.2.2.2.2.2.2.2.2.2.2.2.2.2.2.2.2.2.2.2.2.2⟩
                        go_simp
                        refine hK _ _ hSn (fun hS => ?_)
                        clear hK K hSn
                        try simp only [List.getElem_toArray, List.getElem_cons_zero, List.getElem_cons_succ, Act.put, List.setIfInBounds_toArray, List.set_cons_zero, List.set_cons_succ]
                        refine wpAnyH_ready (rs := [5]) (by kernel_rfl) (by simp) (AllReadyH.cons rfl (fun K hK => ?_) AllReadyH.nil)
                        go_simp
                        refine (HEA.out _ _).mono ?_
                        rintro _ p2 ⟨rfl, hb2⟩
                        have hq2 : p1.heap.size ≤ p2.heap.size := hb2.size
                        have hSn : p2.cell? ⟨g6, 0, none⟩ = some (.int .u8 1) ∧ p2.cell? ⟨g6, 1, none⟩ = some (.int .u8 0) ∧ p2.cell? ⟨g6, 2, none⟩ = some (.bool false) ∧ p2.cell? ⟨g6, 3, none⟩ = some (.int .i64 1) ∧ p2.cell? ⟨g6, 4, none⟩ = some (.int .i64 0) ∧ p2.cell? ⟨g6, 5, none⟩ = some (.int .i64 0) ∧ p2.cell? ⟨g6, 6, none⟩ = some (.int .u64 x) ∧ p2.cell? ⟨g6, 7, none⟩ = some (.int .i64 0) ∧ p2.cell? ⟨g6, 8, none⟩ = some (.int .i64 0) ∧ p2.cell? ⟨g7, 0, none⟩ = some (.int .u8 1) ∧ p2.cell? ⟨g7, 1, none⟩ = some (.int .u8 0) ∧ p2.cell? ⟨g7, 2, none⟩ = some (.bool false) ∧ p2.cell? ⟨g7, 3, none⟩ = some (.int .i64 3) ∧ p2.cell? ⟨g7, 4, none⟩ = some (.int .i64 0) ∧ p2.cell? ⟨g7, 5, none⟩ = some (.int .i64 0) ∧ p2.cell? ⟨g7, 6, none⟩ = some (.int .u64 y) ∧ p2.cell? ⟨g7, 7, none⟩ = some (.int .i64 0) ∧ p2.cell? ⟨g7, 8, none⟩ = some (.int .i64 0) ∧ p2.cell? ⟨wp.heap.size, 0, none⟩ = some (.int .u8 3) ∧ p2.cell? ⟨wp.heap.size, 1, none⟩ = some (.int .u8 (o : Int)) ∧ p2.cell? ⟨wp.heap.size, 2, none⟩ = some (.bool ((k : Int) % 2 == 0)) ∧ p2.cell? ⟨wp.heap.size, 3, none⟩ = some (.int .i64 4) ∧ p2.cell? ⟨wp.heap.size, 4, none⟩ = some (.int .i64 1) ∧ p2.cell? ⟨wp.heap.size, 5, none⟩ = some (.int .i64 0) ∧ p2.cell? ⟨wp.heap.size, 6, none⟩ = some (.int .u64 0) ∧ p2.cell? ⟨wp.heap.size, 7, none⟩ = some (.int .i64 0) ∧ p2.cell? ⟨wp.heap.size, 8, none⟩ = some (.int .i64 0) := ⟨(hb2.cell (p := ⟨g6, 0, none⟩) (show g6 < p1.heap.size by omega)).trans hS.1, (hb2.cell (p := ⟨g6, 1, none⟩) (show g6 < p1.heap.size by omega)).trans hS.2.1, (hb2.cell (p := ⟨g6, 2, none⟩) (show g6 < p1.heap.size by omega)).trans hS.2.2.1, (hb2.cell (p := ⟨g6, 3, none⟩) (show g6 < p1.heap.size by omega)).trans hS.2.2.2.1, (hb2.cell (p := ⟨g6, 4, none⟩) (show g6 < p1.heap.size by omega)).trans hS.2.2.2.2.1, (hb2.cell (p := ⟨g6, 5, none⟩) (show g6 < p1.heap.size by omega)).trans hS.2.2.2.2.2.1, (hb2.cell (p := ⟨g6, 6, none⟩) (show g6 < p1.heap.size by omega)).trans hS.2.2.2.2.2.2.1, (hb2.cell (p := ⟨g6, 7, none⟩) (show g6 < p1.heap.size by omega)).trans hS.2.2.2.2.2.2.2.1, (hb2.cell (p := ⟨g6, 8, none⟩) (show g6 < p1.heap.size by omega)).trans hS.2.2.2.2.2.2.2.2.1, (hb2.cell (p := ⟨g7, 0, none⟩) (show g7 < p1.heap.size by omega)).trans hS.2.2.2.2.2.2.2.2.2.1, (hb2.cell (p := ⟨g7, 1, none⟩) (show g7 < p1.heap.size by omega)).trans hS.2.2.2.2.2.2.2.2.2.2.1, (hb2.cell (p := ⟨g7, 2, none⟩) (show g7 < p1.heap.size by omega)).trans hS.2.2.2.2.2.2.2.2.2.2.2.1, (hb2.cell (p := ⟨g7, 3, none⟩) (show g7 < p1.heap.size by omega)).trans hS.2.2.2.2.2.2.2.2.2.2.2.2.1, (hb2.cell (p := ⟨g7, 4, none⟩) (show g7 < p1.heap.size by omega)).trans hS.2.2.2.2.2.2.2.2.2.2.2.2.2.1, (hb2.cell (p := ⟨g7, 5, none⟩) (show g7 < p1.heap.size by omega)).trans hS.2.2.2.2.2.2.2.2.2.2.2.2.2.2.1, (hb2.cell (p := ⟨g7, 6, none⟩) (show g7 < p1.heap.size by omega)).trans hS.2.2.2.2.2.2.2.2.2.2.2.2.2.2.2.1, (hb2.cell (p := ⟨g7, 7, none⟩) (show g7 < p1.heap.size by omega)).trans hS.2.2.2.2.2.2.2.2.2.2.2.2.2.2.2.2.1, (hb2.cell (p := ⟨g7, 8, none⟩) (show g7 < p1.heap.size by omega)).trans hS.2.2.2.2.2.2.2.2.2.2.2.2.2.2.2.2.2.1, (hb2.cell (p := ⟨wp.heap.size, 0, none⟩) (show wp.heap.size < p1.heap.size by omega)).trans hS.2.2.2.2.2.2.2.2.2.2.2.2.2.2.2.2.2.2.1, (hb2.cell (p := ⟨wp.heap.size, 1, none⟩) (show wp.heap.size < p1.heap.size by omega)).trans hS.2.2.2.2.2.2.2.2.2.2.2.2.2.2.2.2.2.2.2.1, (hb2.cell (p := ⟨wp.heap.size, 2, none⟩) (show wp.heap.size < p1.heap.size by omega)).trans hS.2.2.2.2.2.2.2.2.2.2.2.2.2.2.2.2.2.2.2.2.1, (hb2.cell (p := ⟨wp.heap.size, 3, none⟩) (show wp.heap.size < p1.heap.size by omega)).trans hS.2.2.2.2.2.2.2.2.2.2.2.2.2.2.2.2.2.2.2.2.2.1, (hb2.cell (p := ⟨wp.heap.size, 4, none⟩) (show wp.heap.size < p1.heap.size by omega)).trans hS.2.2.2.2.2.2.2.2.2.2.2.2.2.2.2.2.2.2.2.2.2.2.1, (hb2.cell (p := ⟨wp.heap.size, 5, none⟩) (show wp.heap.size < p1.heap.size by omega)).trans hS.2.2.2.2.2.2.2.2.2.2.2.2.2.2.2.2.2.2.2.2.2.2.2.1, (hb2.cell (p := ⟨wp.heap.size, 6, none⟩) (show wp.heap.size < p1.heap.size by omega)).trans hS.2.2.2.2.2.2.2.2.2.2.2.2.2.2.2.2.2.2.2.2.2.2.2.2.1, (hb2.cell (p := ⟨wp.heap.size, 7, none⟩) (show wp.heap.size < p1.heap.size by omega)).trans hS.2.2.2.2.2.2.2.2.2.2.2.2.2.2.2.2.2.2.2.2.2.2.2.2.2.1, (hb2.cell (p := ⟨wp.heap.size, 8, none⟩) (show wp.heap.size < p1.heap.size by omega)).trans hS.2.2.2.2.2.2.2.2.2.2.2.2.2.2.2.2.2.2.2.2.2.2.2.2.2.2⟩
                        go_simp
                        refine hK _ _ hSn (fun hS => ?_)
                        clear hK K hSn
                        try simp only [List.getElem_toArray, List.getElem_cons_zero, List.getElem_cons_succ, Act.put, List.setIfInBounds_toArray, List.set_cons_zero, List.set_cons_succ]
                        refine wpAnyH_ready (rs := [6]) (by kernel_rfl) (by simp) (AllReadyH.cons rfl (fun K hK => ?_) AllReadyH.nil)
                        go_simp
                        have hSn : (p2.alloc (.cells (flatV [setI 1 x, setI 3 y, (⟨3, (o : Int), ((k : Int) % 2 == 0), 4, 1, 0, 0, 0, 0⟩ : Ins), endI 15, endI 4] ++ []).toArray 40)).cell? ⟨g6, 0, none⟩ = some (.int .u8 1) ∧ (p2.alloc (.cells (flatV [setI 1 x, setI 3 y, (⟨3, (o : Int), ((k : Int) % 2 == 0), 4, 1, 0, 0, 0, 0⟩ : Ins), endI 15, endI 4] ++ []).toArray 40)).cell? ⟨g6, 1, none⟩ = some (.int .u8 0) ∧ (p2.alloc (.cells (flatV [setI 1 x, setI 3 y, (⟨3, (o : Int), ((k : Int) % 2 == 0), 4, 1, 0, 0, 0, 0⟩ : Ins), endI 15, endI 4] ++ []).toArray 40)).cell? ⟨g6, 2, none⟩ = some (.bool false) ∧ (p2.alloc (.cells (flatV [setI 1 x, setI 3 y, (⟨3, (o : Int), ((k : Int) % 2 == 0), 4, 1, 0, 0, 0, 0⟩ : Ins), endI 15, endI 4] ++ []).toArray 40)).cell? ⟨g6, 3, none⟩ = some (.int .i64 1) ∧ (p2.alloc (.cells (flatV [setI 1 x, setI 3 y, (⟨3, (o : Int), ((k : Int) % 2 == 0), 4, 1, 0, 0, 0, 0⟩ : Ins), endI 15, endI 4] ++ []).toArray 40)).cell? ⟨g6, 4, none⟩ = some (.int .i64 0) ∧ (p2.alloc (.cells (flatV [setI 1 x, setI 3 y, (⟨3, (o : Int), ((k : Int) % 2 == 0), 4, 1, 0, 0, 0, 0⟩ : Ins), endI 15, endI 4] ++ []).toArray 40)).cell? ⟨g6, 5, none⟩ = some (.int .i64 0) ∧ (p2.alloc (.cells (flatV [setI 1 x, setI 3 y, (⟨3, (o : Int), ((k : Int) % 2 == 0), 4, 1, 0, 0, 0, 0⟩ : Ins), endI 15, endI 4] ++ []).toArray 40)).cell? ⟨g6, 6, none⟩ = some (.int .u64 x) ∧ (p2.alloc (.cells (flatV [setI 1 x, setI 3 y, (⟨3, (o : Int), ((k : Int) % 2 == 0), 4, 1, 0, 0, 0, 0⟩ : Ins), endI 15, endI 4] ++ []).toArray 40)).cell? ⟨g6, 7, none⟩ = some (.int .i64 0) ∧ (p2.alloc (.cells (flatV [setI 1 x, setI 3 y, (⟨3, (o : Int), ((k : Int) % 2 == 0), 4, 1, 0, 0, 0, 0⟩ : Ins), endI 15, endI 4] ++ []).toArray 40)).cell? ⟨g6, 8, none⟩ = some (.int .i64 0) ∧ (p2.alloc (.cells (flatV [setI 1 x, setI 3 y, (⟨3, (o : Int), ((k : Int) % 2 == 0), 4, 1, 0, 0, 0, 0⟩ : Ins), endI 15, endI 4] ++ []).toArray 40)).cell? ⟨g7, 0, none⟩ = some (.int .u8 1) ∧ (p2.alloc (.cells (flatV [setI 1 x, setI 3 y, (⟨3, (o : Int), ((k : Int) % 2 == 0), 4, 1, 0, 0, 0, 0⟩ : Ins), endI 15, endI 4] ++ []).toArray 40)).cell? ⟨g7, 1, none⟩ = some (.int .u8 0) ∧ (p2.alloc (.cells (flatV [setI 1 x, setI 3 y, (⟨3, (o : Int), ((k : Int) % 2 == 0), 4, 1, 0, 0, 0, 0⟩ : Ins), endI 15, endI 4] ++ []).toArray 40)).cell? ⟨g7, 2, none⟩ = some (.bool false) ∧ (p2.alloc (.cells (flatV [setI 1 x, setI 3 y, (⟨3, (o : Int), ((k : Int) % 2 == 0), 4, 1, 0, 0, 0, 0⟩ : Ins), endI 15, endI 4] ++ []).toArray 40)).cell? ⟨g7, 3, none⟩ = some (.int .i64 3) ∧ (p2.alloc (.cells (flatV [setI 1 x, setI 3 y, (⟨3, (o : Int), ((k : Int) % 2 == 0), 4, 1, 0, 0, 0, 0⟩ : Ins), endI 15, endI 4] ++ []).toArray 40)).cell? ⟨g7, 4, none⟩ = some (.int .i64 0) ∧ (p2.alloc (.cells (flatV [setI 1 x, setI 3 y, (⟨3, (o : Int), ((k : Int) % 2 == 0), 4, 1, 0, 0, 0, 0⟩ : Ins), endI 15, endI 4] ++ []).toArray 40)).cell? ⟨g7, 5, none⟩ = some (.int .i64 0) ∧ (p2.alloc (.cells (flatV [setI 1 x, setI 3 y, (⟨3, (o : Int), ((k : Int) % 2 == 0), 4, 1, 0, 0, 0, 0⟩ : Ins), endI 15, endI 4] ++ []).toArray 40)).cell? ⟨g7, 6, none⟩ = some (.int .u64 y) ∧ (p2.alloc (.cells (flatV [setI 1 x, setI 3 y, (⟨3, (o : Int), ((k : Int) % 2 == 0), 4, 1, 0, 0, 0, 0⟩ : Ins), endI 15, endI 4] ++ []).toArray 40)).cell? ⟨g7, 7, none⟩ = some (.int .i64 0) ∧ (p2.alloc (.cells (flatV [setI 1 x, setI 3 y, (⟨3, (o : Int), ((k : Int) % 2 == 0), 4, 1, 0, 0, 0, 0⟩ : Ins), endI 15, endI 4] ++ []).toArray 40)).cell? ⟨g7, 8, none⟩ = some (.int .i64 0) ∧ (p2.alloc (.cells (flatV [setI 1 x, setI 3 y, (⟨3, (o : Int), ((k : Int) % 2 == 0), 4, 1, 0, 0, 0, 0⟩ : Ins), endI 15, endI 4] ++ []).toArray 40)).cell? ⟨wp.heap.size, 0, none⟩ = some (.int .u8 3) ∧ (p2.alloc (.cells (flatV [setI 1 x, setI 3 y, (⟨3, (o : Int), ((k : Int) % 2 == 0), 4, 1, 0, 0, 0, 0⟩ : Ins), endI 15, endI 4] ++ []).toArray 40)).cell? ⟨wp.heap.size, 1, none⟩ = some (.int .u8 (o : Int)) ∧ (p2.alloc (.cells (flatV [setI 1 x, setI 3 y, (⟨3, (o : Int), ((k : Int) % 2 == 0), 4, 1, 0, 0, 0, 0⟩ : Ins), endI 15, endI 4] ++ []).toArray 40)).cell? ⟨wp.heap.size, 2, none⟩ = some (.bool ((k : Int) % 2 == 0)) ∧ (p2.alloc (.cells (flatV [setI 1 x, setI 3 y, (⟨3, (o : Int), ((k : Int) % 2 == 0), 4, 1, 0, 0, 0, 0⟩ : Ins), endI 15, endI 4] ++ []).toArray 40)).cell? ⟨wp.heap.size, 3, none⟩ = some (.int .i64 4) ∧ (p2.alloc (.cells (flatV [setI 1 x, setI 3 y, (⟨3, (o : Int), ((k : Int) % 2 == 0), 4, 1, 0, 0, 0, 0⟩ : Ins), endI 15, endI 4] ++ []).toArray 40)).cell? ⟨wp.heap.size, 4, none⟩ = some (.int .i64 1) ∧ (p2.alloc (.cells (flatV [setI 1 x, setI 3 y, (⟨3, (o : Int), ((k : Int) % 2 == 0), 4, 1, 0, 0, 0, 0⟩ : Ins), endI 15, endI 4] ++ []).toArray 40)).cell? ⟨wp.heap.size, 5, none⟩ = some (.int .i64 0) ∧ (p2.alloc (.cells (flatV [setI 1 x, setI 3 y, (⟨3, (o : Int), ((k : Int) % 2 == 0), 4, 1, 0, 0, 0, 0⟩ : Ins), endI 15, endI 4] ++ []).toArray 40)).cell? ⟨wp.heap.size, 6, none⟩ = some (.int .u64 0) ∧ (p2.alloc (.cells (flatV [setI 1 x, setI 3 y, (⟨3, (o : Int), ((k : Int) % 2 == 0), 4, 1, 0, 0, 0, 0⟩ : Ins), endI 15, endI 4] ++ []).toArray 40)).cell? ⟨wp.heap.size, 7, none⟩ = some (.int .i64 0) ∧ (p2.alloc (.cells (flatV [setI 1 x, setI 3 y, (⟨3, (o : Int), ((k : Int) % 2 == 0), 4, 1, 0, 0, 0, 0⟩ : Ins), endI 15, endI 4] ++ []).toArray 40)).cell? ⟨wp.heap.size, 8, none⟩ = some (.int .i64 0) := ⟨(World.cell?_alloc_past _ _ _ (show g6 < p2.heap.size by omega)).trans hS.1, (World.cell?_alloc_past _ _ _ (show g6 < p2.heap.size by omega)).trans hS.2.1, (World.cell?_alloc_past _ _ _ (show g6 < p2.heap.size by omega)).trans hS.2.2.1, (World.cell?_alloc_past _ _ _ (show g6 < p2.heap.size by omega)).trans hS.2.2.2.1, (World.cell?_alloc_past _ _ _ (show g6 < p2.heap.size by omega)).trans hS.2.2.2.2.1, (World.cell?_alloc_past _ _ _ (show g6 < p2.heap.size by omega)).trans hS.2.2.2.2.2.1, (World.cell?_alloc_past _ _ _ (show g6 < p2.heap.size by omega)).trans hS.2.2.2.2.2.2.1, (World.cell?_alloc_past _ _ _ (show g6 < p2.heap.size by omega)).trans hS.2.2.2.2.2.2.2.1, (World.cell?_alloc_past _ _ _ (show g6 < p2.heap.size by omega)).trans hS.2.2.2.2.2.2.2.2.1, (World.cell?_alloc_past _ _ _ (show g7 < p2.heap.size by omega)).trans hS.2.2.2.2.2.2.2.2.2.1, (World.cell?_alloc_past _ _ _ (show g7 < p2.heap.size by omega)).trans hS.2.2.2.2.2.2.2.2.2.2.1, (World.cell?_alloc_past _ _ _ (show g7 < p2.heap.size by omega)).trans hS.2.2.2.2.2.2.2.2.2.2.2.1, (World.cell?_alloc_past _ _ _ (show g7 < p2.heap.size by omega)).trans hS.2.2.2.2.2.2.2.2.2.2.2.2.1, (World.cell?_alloc_past _ _ _ (show g7 < p2.heap.size by omega)).trans hS.2.2.2.2.2.2.2.2.2.2.2.2.2.1, (World.cell?_alloc_past _ _ _ (show g7 < p2.heap.size by omega)).trans hS.2.2.2.2.2.2.2.2.2.2.2.2.2.2.1, (World.cell?_alloc_past _ _ _ (show g7 < p2.heap.size by omega)).trans hS.2.2.2.2.2.2.2.2.2.2.2.2.2.2.2.1, (World.cell?_alloc_past _ _ _ (show g7 < p2.heap.size by omega)).trans hS.2.2.2.2.2.2.2.2.2.2.2.2.2.2.2.2.1, (World.cell?_alloc_past _ _ _ (show g7 < p2.heap.size by omega)).trans hS.2.2.2.2.2.2.2.2.2.2.2.2.2.2.2.2.2.1, (World.cell?_alloc_past _ _ _ (show wp.heap.size < p2.heap.size by omega)).trans hS.2.2.2.2.2.2.2.2.2.2.2.2.2.2.2.2.2.2.1, (World.cell?_alloc_past _ _ _ (show wp.heap.size < p2.heap.size by omega)).trans hS.2.2.2.2.2.2.2.2.2.2.2.2.2.2.2.2.2.2.2.1, (World.cell?_alloc_past _ _ _ (show wp.heap.size < p2.heap.size by omega)).trans hS.2.2.2.2.2.2.2.2.2.2.2.2.2.2.2.2.2.2.2.2.1, (World.cell?_alloc_past _ _ _ (show wp.heap.size < p2.heap.size by omega)).trans hS.2.2.2.2.2.2.2.2.2.2.2.2.2.2.2.2.2.2.2.2.2.1, (World.cell?_alloc_past _ _ _ (show wp.heap.size < p2.heap.size by omega)).trans hS.2.2.2.2.2.2.2.2.2.2.2.2.2.2.2.2.2.2.2.2.2.2.1, (World.cell?_alloc_past _ _ _ (show wp.heap.size < p2.heap.size by omega)).trans hS.2.2.2.2.2.2.2.2.2.2.2.2.2.2.2.2.2.2.2.2.2.2.2.1, (World.cell?_alloc_past _ _ _ (show wp.heap.size < p2.heap.size by omega)).trans hS.2.2.2.2.2.2.2.2.2.2.2.2.2.2.2.2.2.2.2.2.2.2.2.2.1, (World.cell?_alloc_past _ _ _ (show wp.heap.size < p2.heap.size by omega)).trans hS.2.2.2.2.2.2.2.2.2.2.2.2.2.2.2.2.2.2.2.2.2.2.2.2.2.1, (World.cell?_alloc_past _ _ _ (show wp.heap.size < p2.heap.size by omega)).trans hS.2.2.2.2.2.2.2.2.2.2.2.2.2.2.2.2.2.2.2.2.2.2.2.2.2.2⟩
                        refine hK _ _ hSn (fun hS => ?_)
                        clear hK K hSn
                        try simp only [List.getElem_toArray, List.getElem_cons_zero, List.getElem_cons_succ, Act.put, List.setIfInBounds_toArray, List.set_cons_zero, List.set_cons_succ]
                        refine wpAnyH_ready (rs := [7]) (by kernel_rfl) (by simp) (AllReadyH.cons rfl (fun K hK => ?_) AllReadyH.nil)
                        have hw12 : Below wq.heap.size wq p2 := (Below.refl _ _).drew.trans (hb1.trans (hb2.mono hq1))
                        go_simp
                        refine (doesF_any (some ⟨p2.heap.size, 0, none⟩) 5 [setI 1 x, setI 3 y, (⟨3, (o : Int), ((k : Int) % 2 == 0), 4, 1, 0, 0, 0, 0⟩ : Ins), endI 15, endI 4] (some ⟨w.heap.size, 0, none⟩) 9 pkN _ (inss_bk (ext := []) (Bk.new p2 40 (flatV [setI 1 x, setI 3 y, (⟨3, (o : Int), ((k : Int) % 2 == 0), 4, 1, 0, 0, 0, 0⟩ : Ins), endI 15, endI 4] ++ [])) (by simp) (by decide)) HOKF.out (bk_rd ((HPQ.out.below hw12 HPQ.out.lt).alloc _) 9) (by decide) (by decide)).mono ?_
                        rintro _ p3 ⟨rfl, hb3⟩
                        have hSn : p3.cell? ⟨g6, 0, none⟩ = some (.int .u8 1) ∧ p3.cell? ⟨g6, 1, none⟩ = some (.int .u8 0) ∧ p3.cell? ⟨g6, 2, none⟩ = some (.bool false) ∧ p3.cell? ⟨g6, 3, none⟩ = some (.int .i64 1) ∧ p3.cell? ⟨g6, 4, none⟩ = some (.int .i64 0) ∧ p3.cell? ⟨g6, 5, none⟩ = some (.int .i64 0) ∧ p3.cell? ⟨g6, 6, none⟩ = some (.int .u64 x) ∧ p3.cell? ⟨g6, 7, none⟩ = some (.int .i64 0) ∧ p3.cell? ⟨g6, 8, none⟩ = some (.int .i64 0) ∧ p3.cell? ⟨g7, 0, none⟩ = some (.int .u8 1) ∧ p3.cell? ⟨g7, 1, none⟩ = some (.int .u8 0) ∧ p3.cell? ⟨g7, 2, none⟩ = some (.bool false) ∧ p3.cell? ⟨g7, 3, none⟩ = some (.int .i64 3) ∧ p3.cell? ⟨g7, 4, none⟩ = some (.int .i64 0) ∧ p3.cell? ⟨g7, 5, none⟩ = some (.int .i64 0) ∧ p3.cell? ⟨g7, 6, none⟩ = some (.int .u64 y) ∧ p3.cell? ⟨g7, 7, none⟩ = some (.int .i64 0) ∧ p3.cell? ⟨g7, 8, none⟩ = some (.int .i64 0) ∧ p3.cell? ⟨wp.heap.size, 0, none⟩ = some (.int .u8 3) ∧ p3.cell? ⟨wp.heap.size, 1, none⟩ = some (.int .u8 (o : Int)) ∧ p3.cell? ⟨wp.heap.size, 2, none⟩ = some (.bool ((k : Int) % 2 == 0)) ∧ p3.cell? ⟨wp.heap.size, 3, none⟩ = some (.int .i64 4) ∧ p3.cell? ⟨wp.heap.size, 4, none⟩ = some (.int .i64 1) ∧ p3.cell? ⟨wp.heap.size, 5, none⟩ = some (.int .i64 0) ∧ p3.cell? ⟨wp.heap.size, 6, none⟩ = some (.int .u64 0) ∧ p3.cell? ⟨wp.heap.size, 7, none⟩ = some (.int .i64 0) ∧ p3.cell? ⟨wp.heap.size, 8, none⟩ = some (.int .i64 0) := ⟨(hb3.cell (p := ⟨g6, 0, none⟩) (by simp; omega)).trans hS.1, (hb3.cell (p := ⟨g6, 1, none⟩) (by simp; omega)).trans hS.2.1, (hb3.cell (p := ⟨g6, 2, none⟩) (by simp; omega)).trans hS.2.2.1, (hb3.cell (p := ⟨g6, 3, none⟩) (by simp; omega)).trans hS.2.2.2.1, (hb3.cell (p := ⟨g6, 4, none⟩) (by simp; omega)).trans hS.2.2.2.2.1, (hb3.cell (p := ⟨g6, 5, none⟩) (by simp; omega)).trans hS.2.2.2.2.2.1, (hb3.cell (p := ⟨g6, 6, none⟩) (by simp; omega)).trans hS.2.2.2.2.2.2.1, (hb3.cell (p := ⟨g6, 7, none⟩) (by simp; omega)).trans hS.2.2.2.2.2.2.2.1, (hb3.cell (p := ⟨g6, 8, none⟩) (by simp; omega)).trans hS.2.2.2.2.2.2.2.2.1, (hb3.cell (p := ⟨g7, 0, none⟩) (by simp; omega)).trans hS.2.2.2.2.2.2.2.2.2.1, (hb3.cell (p := ⟨g7, 1, none⟩) (by simp; omega)).trans hS.2.2.2.2.2.2.2.2.2.2.1, (hb3.cell (p := ⟨g7, 2, none⟩) (by simp; omega)).trans hS.2.2.2.2.2.2.2.2.2.2.2.1, (hb3.cell (p := ⟨g7, 3, none⟩) (by simp; omega)).trans hS.2.2.2.2.2.2.2.2.2.2.2.2.1, (hb3.cell (p := ⟨g7, 4, none⟩) (by simp; omega)).trans hS.2.2.2.2.2.2.2.2.2.2.2.2.2.1, (hb3.cell (p := ⟨g7, 5, none⟩) (by simp; omega)).trans hS.2.2.2.2.2.2.2.2.2.2.2.2.2.2.1, (hb3.cell (p := ⟨g7, 6, none⟩) (by simp; omega)).trans hS.2.2.2.2.2.2.2.2.2.2.2.2.2.2.2.1, (hb3.cell (p := ⟨g7, 7, none⟩) (by simp; omega)).trans hS.2.2.2.2.2.2.2.2.2.2.2.2.2.2.2.2.1, (hb3.cell (p := ⟨g7, 8, none⟩) (by simp; omega)).trans hS.2.2.2.2.2.2.2.2.2.2.2.2.2.2.2.2.2.1, (hb3.cell (p := ⟨wp.heap.size, 0, none⟩) (by simp; omega)).trans hS.2.2.2.2.2.2.2.2.2.2.2.2.2.2.2.2.2.2.1, (hb3.cell (p := ⟨wp.heap.size, 1, none⟩) (by simp; omega)).trans hS.2.2.2.2.2.2.2.2.2.2.2.2.2.2.2.2.2.2.2.1, (hb3.cell (p := ⟨wp.heap.size, 2, none⟩) (by simp; omega)).trans hS.2.2.2.2.2.2.2.2.2.2.2.2.2.2.2.2.2.2.2.2.1, (hb3.cell (p := ⟨wp.heap.size, 3, none⟩) (by simp; omega)).trans hS.2.2.2.2.2.2.2.2.2.2.2.2.2.2.2.2.2.2.2.2.2.1, (hb3.cell (p := ⟨wp.heap.size, 4, none⟩) (by simp; omega)).trans hS.2.2.2.2.2.2.2.2.2.2.2.2.2.2.2.2.2.2.2.2.2.2.1, (hb3.cell (p := ⟨wp.heap.size, 5, none⟩) (by simp; omega)).trans hS.2.2.2.2.2.2.2.2.2.2.2.2.2.2.2.2.2.2.2.2.2.2.2.1, (hb3.cell (p := ⟨wp.heap.size, 6, none⟩) (by simp; omega)).trans hS.2.2.2.2.2.2.2.2.2.2.2.2.2.2.2.2.2.2.2.2.2.2.2.2.1, (hb3.cell (p := ⟨wp.heap.size, 7, none⟩) (by simp; omega)).trans hS.2.2.2.2.2.2.2.2.2.2.2.2.2.2.2.2.2.2.2.2.2.2.2.2.2.1, (hb3.cell (p := ⟨wp.heap.size, 8, none⟩) (by simp; omega)).trans hS.2.2.2.2.2.2.2.2.2.2.2.2.2.2.2.2.2.2.2.2.2.2.2.2.2.2⟩
                        have HE28 : Hid (Below wq.heap.size wq p3) := Lib.hid (hw12.trans (((Below.refl _ _).alloc (Nat.le_refl _) _).trans (hb3.mono (by simp)) |>.mono (by omega)))
                        go_simp
                        refine hK _ _ hSn (fun hS => ?_)
                        clear hK K hSn
                        try simp only [List.getElem_toArray, List.getElem_cons_zero, List.getElem_cons_succ, Act.put, List.setIfInBounds_toArray, List.set_cons_zero, List.set_cons_succ]
                        refine wpAnyH_take (i := 8) (v := ?_) rfl (by kernel_rfl) (by kernel_rfl) (by kernel_rfl) (fun _ _ _ h => h) (Or.inl ⟨by rfl, ?_⟩) hS ?_
                        rotate_left 1
                        · intro w' hSw
                          go_simp <;> with_reducible rfl
                        try simp only [List.getElem_toArray, List.getElem_cons_zero, List.getElem_cons_succ, Act.put, List.setIfInBounds_toArray, List.set_cons_zero, List.set_cons_succ]
                        refine wpAnyH_done (by kernel_rfl) ?_ _
                        go_wp2_with fail
                        go_meet
                        exact ⟨rfl, HE28.out⟩
                      case rest =>
                        obtain ⟨rfl, hb5⟩ := hcut
                        go_wp2_with fail
                        go_roundw
                        case rel => exact ⟨o + 1, by omega, by omega, by go_num, HKO.out.trans ((HQB.out.trans (hb5.mono hqs)).mono HKO.out.size)⟩
                        case measure => simp [intOf]; omega
                    · have q1 : ((o : Int) == 13) = false := by rw [beq_eq_false_iff_ne]; omega
                      by_cases h14 : 13 < o
                      · have q2 : decide ((13 : Int) < (o : Int)) = true := decide_eq_true (by omega)
                        clear h13
                        have h12 : Bk (wp.alloc (.cells #[.int .u8 8, .int .u8 (o : Int), .bool ((k : Int) % 2 == 0), .int .i64 0, .int .i64 1, .int .i64 3, .int .u64 0, .int .i64 0, .int .i64 4] 40)) wp.heap.size 40 (insV (⟨8, (o : Int), ((k : Int) % 2 == 0), 0, 1, 3, 0, 0, 4⟩ : Ins)) := Bk.new wp 40 (insV (⟨8, (o : Int), ((k : Int) % 2 == 0), 0, 1, 3, 0, 0, 4⟩ : Ins))
                        have hqb : Below wp.heap.size wp (wp.alloc (.cells #[.int .u8 8, .int .u8 (o : Int), .bool ((k : Int) % 2 == 0), .int .i64 0, .int .i64 1, .int .i64 3, .int .u64 0, .int .i64 0, .int .i64 4] 40)) := (Below.refl _ _).alloc (Nat.le_refl _) _
                        go_upto_region 28 with (fail)
                        generalize wp.alloc (.cells #[.int .u8 8, .int .u8 (o : Int), .bool ((k : Int) % 2 == 0), .int .i64 0, .int .i64 1, .int .i64 3, .int .u64 0, .int .i64 0, .int .i64 4] 40) = wq at *
                        have hqs := hqb.size
                        have h6 := HK6.out.below hqb HK6.out.lt
                        have h7 := HK7.out.below hqb HK7.out.lt
                        have HPQ := Lib.hid (HP5.out.below hqb HP5.out.lt)
                        have HQB := Lib.hid hqb
                        have l6 := h6.lt
                        have l7 := h7.lt
                        have l12 := h12.lt
                        have hS0 := s27 h6 h7 h12
                        have okF : ∀ f ∈ [setI 1 x, setI 3 y, (⟨8, (o : Int), ((k : Int) % 2 == 0), 0, 1, 3, 0, 0, 4⟩ : Ins), endI 15, endI 4], InsOk f := by
                          intro f hf
                          simp at hf
                          rcases hf with rfl | rfl | rfl | rfl | rfl
                          · exact okS _ _ x0 x1
                          · exact okS _ _ y0 y1
                          · exact ⟨by show (0 : Int) ≤ (o : Int); omega, Int.le_refl 0, by show (0 : Int) ≤ _; omega⟩
                          · exact okE 15
                          · exact okE 4
                        have HOKF := Lib.hid okF
                        clear okF h6 h7 h12 hqb
                        go_cut [123] (fun v wx => v = .bool false ∧ Below wq.heap.size wq wx)
                        case first =>
                          refine wp_region_held_drew (S := fun w' => w'.cell? ⟨g6, 0, none⟩ = some (.int .u8 1) ∧ w'.cell? ⟨g6, 1, none⟩ = some (.int .u8 0) ∧ w'.cell? ⟨g6, 2, none⟩ = some (.bool false) ∧ w'.cell? ⟨g6, 3, none⟩ = some (.int .i64 1) ∧ w'.cell? ⟨g6, 4, none⟩ = some (.int .i64 0) ∧ w'.cell? ⟨g6, 5, none⟩ = some (.int .i64 0) ∧ w'.cell? ⟨g6, 6, none⟩ = some (.int .u64 x) ∧ w'.cell? ⟨g6, 7, none⟩ = some (.int .i64 0) ∧ w'.cell? ⟨g6, 8, none⟩ = some (.int .i64 0) ∧ w'.cell? ⟨g7, 0, none⟩ = some (.int .u8 1) ∧ w'.cell? ⟨g7, 1, none⟩ = some (.int .u8 0) ∧ w'.cell? ⟨g7, 2, none⟩ = some (.bool false) ∧ w'.cell? ⟨g7, 3, none⟩ = some (.int .i64 3) ∧ w'.cell? ⟨g7, 4, none⟩ = some (.int .i64 0) ∧ w'.cell? ⟨g7, 5, none⟩ = some (.int .i64 0) ∧ w'.cell? ⟨g7, 6, none⟩ = some (.int .u64 y) ∧ w'.cell? ⟨g7, 7, none⟩ = some (.int .i64 0) ∧ w'.cell? ⟨g7, 8, none⟩ = some (.int .i64 0) ∧ w'.cell? ⟨wp.heap.size, 0, none⟩ = some (.int .u8 8) ∧ w'.cell? ⟨wp.heap.size, 1, none⟩ = some (.int .u8 (o : Int)) ∧ w'.cell? ⟨wp.heap.size, 2, none⟩ = some (.bool ((k : Int) % 2 == 0)) ∧ w'.cell? ⟨wp.heap.size, 3, none⟩ = some (.int .i64 0) ∧ w'.cell? ⟨wp.heap.size, 4, none⟩ = some (.int .i64 1) ∧ w'.cell? ⟨wp.heap.size, 5, none⟩ = some (.int .i64 3) ∧ w'.cell? ⟨wp.heap.size, 6, none⟩ = some (.int .u64 0) ∧ w'.cell? ⟨wp.heap.size, 7, none⟩ = some (.int .i64 0) ∧ w'.cell? ⟨wp.heap.size, 8, none⟩ = some (.int .i64 4)) (by kernel_rfl) hS0 (fun hS => ?_)
                          refine wpAnyH_take (i := 0) (v := ?_) rfl (by kernel_rfl) (by kernel_rfl) (by kernel_rfl) (fun _ _ _ h => h) (Or.inl ⟨by rfl, ?_⟩) hS ?_
                          rotate_left 1
                          · intro w' hSw
                            go_simp <;> with_reducible rfl
                          try simp only [List.getElem_toArray, List.getElem_cons_zero, List.getElem_cons_succ, Act.put, List.setIfInBounds_toArray, List.set_cons_zero, List.set_cons_succ]
                          refine wpAnyH_take (i := 1) (v := ?_) rfl (by kernel_rfl) (by kernel_rfl) (by kernel_rfl) (fun _ _ _ h => h) (Or.inl ⟨by rfl, ?_⟩) hS ?_
                          rotate_left 1
                          · intro w' hSw
                            go_simp <;> with_reducible rfl
                          try simp only [List.getElem_toArray, List.getElem_cons_zero, List.getElem_cons_succ, Act.put, List.setIfInBounds_toArray, List.set_cons_zero, List.set_cons_succ]
                          refine wpAnyH_take (i := 2) (v := ?_) rfl (by kernel_rfl) (by kernel_rfl) (by kernel_rfl) (fun _ _ _ h => h) (Or.inl ⟨by rfl, ?_⟩) hS ?_
                          rotate_left 1
                          · intro w' hSw
                            go_simp <;> with_reducible rfl
                          try simp only [List.getElem_toArray, List.getElem_cons_zero, List.getElem_cons_succ, Act.put, List.setIfInBounds_toArray, List.set_cons_zero, List.set_cons_succ]
                          refine wpAnyH_take (i := 3) (v := ?_) rfl (by kernel_rfl) (by kernel_rfl) (by kernel_rfl) (fun _ _ _ h => h) (Or.inl ⟨by rfl, ?_⟩) hS ?_
                          rotate_left 1
                          · intro w' hSw
                            go_simp <;> with_reducible rfl
                          try simp only [List.getElem_toArray, List.getElem_cons_zero, List.getElem_cons_succ, Act.put, List.setIfInBounds_toArray, List.set_cons_zero, List.set_cons_succ]
                          refine wpAnyH_ready (rs := [4]) (by kernel_rfl) (by simp) (AllReadyH.cons rfl (fun K hK => ?_) AllReadyH.nil)
                          go_simp
                          refine (HEA.out _ _).mono ?_
                          rintro _ p1 ⟨rfl, hb1⟩
                          have hq1 : wq.heap.size ≤ p1.heap.size := hb1.size
                          have hSn : p1.cell? ⟨g6, 0, none⟩ = some (.int .u8 1) ∧ p1.cell? ⟨g6, 1, none⟩ = some (.int .u8 0) ∧ p1.cell? ⟨g6, 2, none⟩ = some (.bool false) ∧ p1.cell? ⟨g6, 3, none⟩ = some (.int .i64 1) ∧ p1.cell? ⟨g6, 4, none⟩ = some (.int .i64 0) ∧ p1.cell? ⟨g6, 5, none⟩ = some (.int .i64 0) ∧ p1.cell? ⟨g6, 6, none⟩ = some (.int .u64 x) ∧ p1.cell? ⟨g6, 7, none⟩ = some (.int .i64 0) ∧ p1.cell? ⟨g6, 8, none⟩ = some (.int .i64 0) ∧ p1.cell? ⟨g7, 0, none⟩ = some (.int .u8 1) ∧ p1.cell? ⟨g7, 1, none⟩ = some (.int .u8 0) ∧ p1.cell? ⟨g7, 2, none⟩ = some (.bool false) ∧ p1.cell? ⟨g7, 3, none⟩ = some (.int .i64 3) ∧ p1.cell? ⟨g7, 4, none⟩ = some (.int .i64 0) ∧ p1.cell? ⟨g7, 5, none⟩ = some (.int .i64 0) ∧ p1.cell? ⟨g7, 6, none⟩ = some (.int .u64 y) ∧ p1.cell? ⟨g7, 7, none⟩ = some (.int .i64 0) ∧ p1.cell? ⟨g7, 8, none⟩ = some (.int .i64 0) ∧ p1.cell? ⟨wp.heap.size, 0, none⟩ = some (.int .u8 8) ∧ p1.cell? ⟨wp.heap.size, 1, none⟩ = some (.int .u8 (o : Int)) ∧ p1.cell? ⟨wp.heap.size, 2, none⟩ = some (.bool ((k : Int) % 2 == 0)) ∧ p1.cell? ⟨wp.heap.size, 3, none⟩ = some (.int .i64 0) ∧ p1.cell? ⟨wp.heap.size, 4, none⟩ = some (.int .i64 1) ∧ p1.cell? ⟨wp.heap.size, 5, none⟩ = some (.int .i64 3) ∧ p1.cell? ⟨wp.heap.size, 6, none⟩ = some (.int .u64 0) ∧ p1.cell? ⟨wp.heap.size, 7, none⟩ = some (.int .i64 0) ∧ p1.cell? ⟨wp.heap.size, 8, none⟩ = some (.int .i64 4) := ⟨(hb1.cell (p := ⟨g6, 0, none⟩) (show g6 < wq.heap.size from l6)).trans hS.1, (hb1.cell (p := ⟨g6, 1, none⟩) (show g6 < wq.heap.size from l6)).trans hS.2.1, (hb1.cell (p := ⟨g6, 2, none⟩) (show g6 < wq.heap.size from l6)).trans hS.2.2.1, (hb1.cell (p := ⟨g6, 3, none⟩) (show g6 < wq.heap.size from l6)).trans hS.2.2.2.1, (hb1.cell (p := ⟨g6, 4, none⟩) (show g6 < wq.heap.size from l6)).trans hS.2.2.2.2.1, (hb1.cell (p := ⟨g6, 5, none⟩) (show g6 < wq.heap.size from l6)).trans hS.2.2.2.2.2.1, (hb1.cell (p := ⟨g6, 6, none⟩) (show g6 < wq.heap.size from l6)).trans hS.2.2.2.2.2.2.1, (hb1.cell (p := ⟨g6, 7, none⟩) (show g6 < wq.heap.size from l6)).trans hS.2.2.2.2.2.2.2.1, (hb1.cell (p := ⟨g6, 8, none⟩) (show g6 < wq.heap.size from l6)).trans hS.2.2.2.2.2.2.2.2.1, (hb1.cell (p := ⟨g7, 0, none⟩) (show g7 < wq.heap.size from l7)).trans hS.2.2.2.2.2.2.2.2.2.1, (hb1.cell (p := ⟨g7, 1, none⟩) (show g7 < wq.heap.size from l7)).trans hS.2.2.2.2.2.2.2.2.2.2.1, (hb1.cell (p := ⟨g7, 2, none⟩) (show g7 < wq.heap.size from l7)).trans hS.2.2.2.2.2.2.2.2.2.2.2.1, (hb1.cell (p := ⟨g7, 3, none⟩) (show g7 < wq.heap.size from l7)).trans hS.2.2.2.2.2.2.2.2.2.2.2.2.1, (hb1.cell (p := ⟨g7, 4, none⟩) (show g7 < wq.heap.size from l7)).trans hS.2.2.2.2.2.2.2.2.2.2.2.2.2.1, (hb1.cell (p := ⟨g7, 5, none⟩) (show g7 < wq.heap.size from l7)).trans hS.2.2.2.2.2.2.2.2.2.2.2.2.2.2.1, (hb1.cell (p := ⟨g7, 6, none⟩) (show g7 < wq.heap.size from l7)).trans hS.2.2.2.2.2.2.2.2.2.2.2.2.2.2.2.1, (hb1.cell (p := ⟨g7, 7, none⟩) (show g7 < wq.heap.size from l7)).trans hS.2.2.2.2.2.2.2.2.2.2.2.2.2.2.2.2.1, (hb1.cell (p := ⟨g7, 8, none⟩) (show g7 < wq.heap.size from l7)).trans hS.2.2.2.2.2.2.2.2.2.2.2.2.2.2.2.2.2.1, (hb1.cell (p := ⟨wp.heap.size, 0, none⟩) (show wp.heap.size < wq.heap.size from l12)).trans hS.2.2.2.2.2.2.2.2.2.2.2.2.2.2.2.2.2.2.1, (hb1.cell (p := ⟨wp.heap.size, 1, none⟩) (show wp.heap.size < wq.heap.size from l12)).trans hS.2.2.2.2.2.2.2.2.2.2.2.2.2.2.2.2.2.2.2.1, (hb1.cell (p := ⟨wp.heap.size, 2, none⟩) (show wp.heap.size < wq.heap.size from l12)).trans hS.2.2.2.2.2.2.2.2.2.2.2.2.2.2.2.2.2.2.2.2.1, (hb1.cell (p := ⟨wp.heap.size, 3, none⟩) (show wp.heap.size < wq.heap.size from l12)).trans hS.2.2.2.2.2.2.2.2.2.2.2.2.2.2.2.2.2.2.2.2.2.1, (hb1.cell (p := ⟨wp.heap.size, 4, none⟩) (show wp.heap.size < wq.heap.size from l12)).trans hS.2.2.2.2.2.2.2.2.2.2.2.2.2.2.2.2.2.2.2.2.2.2.1, (hb1.cell (p := ⟨wp.heap.size, 5, none⟩) (show wp.heap.size < wq.heap.size from l12)).trans hS.2.2.2.2.2.2.2.2.2.2.2.2.2.2.2.2.2.2.2.2.2.2.2.1, (hb1.cell (p := ⟨wp.heap.size, 6, none⟩) (show wp.heap.size < wq.heap.size from l12)).trans hS.2.2.2.2.2.2.2.2.2.2.2.2.2.2.2.2.2.2.2.2.2.2.2.2.1, (hb1.cell (p := ⟨wp.heap.size, 7, none⟩) (show wp.heap.size < wq.heap.size from l12)).trans hS.2.2.2.2.2.2.2.2.2.2.2.2.2.2.2.2.2.2.2.2.2.2.2.2.2.1, (hb1.cell (p := ⟨wp.heap.size, 8, none⟩) (show wp.heap.size < wq.heap.size from l12)).trans hS.2.2.2.2.2.2.2.2.2.2.2.2.2.2.2.2.2.2.2.2.2.2.2.2.2.2⟩
                          go_simp
                          refine hK _ _ hSn (fun hS => ?_)
                          clear hK K hSn
                          try simp only [List.getElem_toArray, List.getElem_cons_zero, List.getElem_cons_succ, Act.put, List.setIfInBounds_toArray, List.set_cons_zero, List.set_cons_succ]
                          refine wpAnyH_ready (rs := [5]) (by kernel_rfl) (by simp) (AllReadyH.cons rfl (fun K hK => ?_) AllReadyH.nil)
                          go_simp
                          refine (HEA.out _ _).mono ?_
                          rintro _ p2 ⟨rfl, hb2⟩
                          have hq2 : p1.heap.size ≤ p2.heap.size := hb2.size
                          have hSn : p2.cell? ⟨g6, 0, none⟩ = some (.int .u8 1) ∧ p2.cell? ⟨g6, 1, none⟩ = some (.int .u8 0) ∧ p2.cell? ⟨g6, 2, none⟩ = some (.bool false) ∧ p2.cell? ⟨g6, 3, none⟩ = some (.int .i64 1) ∧ p2.cell? ⟨g6, 4, none⟩ = some (.int .i64 0) ∧ p2.cell? ⟨g6, 5, none⟩ = some (.int .i64 0) ∧ p2.cell? ⟨g6, 6, none⟩ = some (.int .u64 x) ∧ p2.cell? ⟨g6, 7, none⟩ = some (.int .i64 0) ∧ p2.cell? ⟨g6, 8, none⟩ = some (.int .i64 0) ∧ p2.cell? ⟨g7, 0, none⟩ = some (.int .u8 1) ∧ p2.cell? ⟨g7, 1, none⟩ = some (.int .u8 0) ∧ p2.cell? ⟨g7, 2, none⟩ = some (.bool false) ∧ p2.cell? ⟨g7, 3, none⟩ = some (.int .i64 3) ∧ p2.cell? ⟨g7, 4, none⟩ = some (.int .i64 0) ∧ p2.cell? ⟨g7, 5, none⟩ = some (.int .i64 0) ∧ p2.cell? ⟨g7, 6, none⟩ = some (.int .u64 y) ∧ p2.cell? ⟨g7, 7, none⟩ = some (.int .i64 0) ∧ p2.cell? ⟨g7, 8, none⟩ = some (.int .i64 0) ∧ p2.cell? ⟨wp.heap.size, 0, none⟩ = some (.int .u8 8) ∧ p2.cell? ⟨wp.heap.size, 1, none⟩ = some (.int .u8 (o : Int)) ∧ p2.cell? ⟨wp.heap.size, 2, none⟩ = some (.bool ((k : Int) % 2 == 0)) ∧ p2.cell? ⟨wp.heap.size, 3, none⟩ = some (.int .i64 0) ∧ p2.cell? ⟨wp.heap.size, 4, none⟩ = some (.int .i64 1) ∧ p2.cell? ⟨wp.heap.size, 5, none⟩ = some (.int .i64 3) ∧ p2.cell? ⟨wp.heap.size, 6, none⟩ = some (.int .u64 0) ∧ p2.cell? ⟨wp.heap.size, 7, none⟩ = some (.int .i64 0) ∧ p2.cell? ⟨wp.heap.size, 8, none⟩ = some (.int .i64 4) := ⟨(hb2.cell (p := ⟨g6, 0, none⟩) (show g6 < p1.heap.size by omega)).trans hS.1, (hb2.cell (p := ⟨g6, 1, none⟩) (show g6 < p1.heap.size by omega)).trans hS.2.1, (hb2.cell (p := ⟨g6, 2, none⟩) (show g6 < p1.heap.size by omega)).trans hS.2.2.1, (hb2.cell (p := ⟨g6, 3, none⟩) (show g6 < p1.heap.size by omega)).trans hS.2.2.2.1, (hb2.cell (p := ⟨g6, 4, none⟩) (show g6 < p1.heap.size by omega)).trans hS.2.2.2.2.1, (hb2.cell (p := ⟨g6, 5, none⟩) (show g6 < p1.heap.size by omega)).trans hS.2.2.2.2.2.1, (hb2.cell (p := ⟨g6, 6, none⟩) (show g6 < p1.heap.size by omega)).trans hS.2.2.2.2.2.2.1, (hb2.cell (p := ⟨g6, 7, none⟩) (show g6 < p1.heap.size by omega)).trans hS.2.2.2.2.2.2.2.1, (hb2.cell (p := ⟨g6, 8, none⟩) (show g6 < p1.heap.size by omega)).trans hS.2.2.2.2.2.2.2.2.1, (hb2.cell (p := ⟨g7, 0, none⟩) (show g7 < p1.heap.size by omega)).trans hS.2.2.2.2.2.2.2.2.2.1, (hb2.cell (p := ⟨g7, 1, none⟩) (show g7 < p1.heap.size by omega)).trans hS.2.2.2.2.2.2.2.2.2.2.1, (hb2.cell (p := ⟨g7, 2, none⟩) (show g7 < p1.heap.size by omega)).trans hS.2.2.2.2.2.2.2.2.2.2.2.1, (hb2.cell (p := ⟨g7, 3, none⟩) (show g7 < p1.heap.size by omega)).trans hS.2.2.2.2.2.2.2.2.2.2.2.2.1, (hb2.cell (p := ⟨g7, 4, none⟩) (show g7 < p1.heap.size by omega)).trans hS.2.2.2.2.2.2.2.2.2.2.2.2.2.1, (hb2.cell (p := ⟨g7, 5, none⟩) (show g7 < p1.heap.size by omega)).trans hS.2.2.2.2.2.2.2.2.2.2.2.2.2.2.1, (hb2.cell (p := ⟨g7, 6, none⟩) (show g7 < p1.heap.size by omega)).trans hS.2.2.2.2.2.2.2.2.2.2.2.2.2.2.2.1, (hb2.cell (p := ⟨g7, 7, none⟩) (show g7 < p1.heap.size by omega)).trans hS.2.2.2.2.2.2.2.2.2.2.2.2.2.2.2.2.1, (hb2.cell (p := ⟨g7, 8, none⟩) (show g7 < p1.heap.size by omega)).trans hS.2.2.2.2.2.2.2.2.2.2.2.2.2.2.2.2.2.1, (hb2.cell (p := ⟨wp.heap.size, 0, none⟩) (show wp.heap.size < p1.heap.size by omega)).trans hS.2.2.2.2.2.2.2.2.2.2.2.2.2.2.2.2.2.2.1, (hb2.cell (p := ⟨wp.heap.size, 1, none⟩) (show wp.heap.size < p1.heap.size by omega)).trans hS.2.2.2.2.2.2.2.2.2.2.2.2.2.2.2.2.2.2.2.1, (hb2.cell (p := ⟨wp.heap.size, 2, none⟩) (show wp.heap.size < p1.heap.size by omega)).trans hS.2.2.2.2.2.2.2.2.2.2.2.2.2.2.2.2.2.2.2.2.1, (hb2.cell (p := ⟨wp.heap.size, 3, none⟩) (show wp.heap.size < p1.heap.size by omega)).trans hS.2.2.2.2.2.2.2.2.2.2.2.2.2.2.2.2.2.2.2.2.2.1, (hb2.cell (p := ⟨wp.heap.size, 4, none⟩) (show wp.heap.size < p1.heap.size by omega)).trans hS.2.2.2.2.2.2.2.2.2.2.2.2.2.2.2.2.2.2.2.2.2.2.1, (hb2.cell (p := ⟨wp.heap.size, 5, none⟩) (show wp.heap.size < p1.heap.size by omega)).trans hS.2.2.2.2.2.2.2.2.2.2.2.2.2.2.2.2.2.2.2.2.2.2.2.1, (hb2.cell (p := ⟨wp.heap.size, 6, none⟩) (show wp.heap.size < p1.heap.size by omega)).trans hS.2.2.2.2.2.2.2.2.2.2.2.2.2.2.2.2.2.2.2.2.2.2.2.2.1, (hb2.cell (p := ⟨wp.heap.size, 7, none⟩) (show wp.heap.size < p1.heap.size by omega)).trans hS.2.2.2.2.2.2.2.2.2.2.2.2.2.2.2.2.2.2.2.2.2.2.2.2.2.1, (hb2.cell (p := ⟨wp.heap.size, 8, none⟩) (show wp.heap.size < p1.heap.size by omega)).trans hS.2.2.2.2.2.2.2.2.2.2.2.2.2.2.2.2.2.2.2.2.2.2.2.2.2.2⟩
                          go_simp
                          refine hK _ _ hSn (fun hS => ?_)
                          clear hK K hSn
                          try simp only [List.getElem_toArray, List.getElem_cons_zero, List.getElem_cons_succ, Act.put, List.setIfInBounds_toArray, List.set_cons_zero, List.set_cons_succ]
                          refine wpAnyH_ready (rs := [6]) (by kernel_rfl) (by simp) (AllReadyH.cons rfl (fun K hK => ?_) AllReadyH.nil)
                          go_simp
                          have hSn : (p2.alloc (.cells (flatV [setI 1 x, setI 3 y, (⟨8, (o : Int), ((k : Int) % 2 == 0), 0, 1, 3, 0, 0, 4⟩ : Ins), endI 15, endI 4] ++ []).toArray 40)).cell? ⟨g6, 0, none⟩ = some (.int .u8 1) ∧ (p2.alloc (.cells (flatV [setI 1 x, setI 3 y, (⟨8, (o : Int), ((k : Int) % 2 == 0), 0, 1, 3, 0, 0, 4⟩ : Ins), endI 15, endI 4] ++ []).toArray 40)).cell? ⟨g6, 1, none⟩ = some (.int .u8 0) ∧ (p2.alloc (.cells (flatV [setI 1 x, setI 3 y, (⟨8, (o : Int), ((k : Int) % 2 == 0), 0, 1, 3, 0, 0, 4⟩ : Ins), endI 15, endI 4] ++ []).toArray 40)).cell? ⟨g6, 2, none⟩ = some (.bool false) ∧ (p2.alloc (.cells (flatV [setI 1 x, setI 3 y, (⟨8, (o : Int), ((k : Int) % 2 == 0), 0, 1, 3, 0, 0, 4⟩ : Ins), endI 15, endI 4] ++ []).toArray 40)).cell? ⟨g6, 3, none⟩ = some (.int .i64 1) ∧ (p2.alloc (.cells (flatV [setI 1 x, setI 3 y, (⟨8, (o : Int), ((k : Int) % 2 == 0), 0, 1, 3, 0, 0, 4⟩ : Ins), endI 15, endI 4] ++ []).toArray 40)).cell? ⟨g6, 4, none⟩ = some (.int .i64 0) ∧ (p2.alloc (.cells (flatV [setI 1 x, setI 3 y, (⟨8, (o : Int), ((k : Int) % 2 == 0), 0, 1, 3, 0, 0, 4⟩ : Ins), endI 15, endI 4] ++ []).toArray 40)).cell? ⟨g6, 5, none⟩ = some (.int .i64 0) ∧ (p2.alloc (.cells (flatV [setI 1 x, setI 3 y, (⟨8, (o : Int), ((k : Int) % 2 == 0), 0, 1, 3, 0, 0, 4⟩ : Ins), endI 15, endI 4] ++ []).toArray 40)).cell? ⟨g6, 6, none⟩ = some (.int .u64 x) ∧ (p2.alloc (.cells (flatV [setI 1 x, setI 3 y, (⟨8, (o : Int), ((k : Int) % 2 == 0), 0, 1, 3, 0, 0, 4⟩ : Ins), endI 15, endI 4] ++ []).toArray 40)).cell? ⟨g6, 7, none⟩ = some (.int .i64 0) ∧ (p2.alloc (.cells (flatV [setI 1 x, setI 3 y, (⟨8, (o : Int), ((k : Int) % 2 == 0), 0, 1, 3, 0, 0, 4⟩ : Ins), endI 15, endI 4] ++ []).toArray 40)).cell? ⟨g6, 8, none⟩ = some (.int .i64 0) ∧ (p2.alloc (.cells (flatV [setI 1 x, setI 3 y, (⟨8, (o : Int), ((k : Int) % 2 == 0), 0, 1, 3, 0, 0, 4⟩ : Ins), endI 15, endI 4] ++ []).toArray 40)).cell? ⟨g7, 0, none⟩ = some (.int .u8 1) ∧ (p2.alloc (.cells (flatV [setI 1 x, setI 3 y, (⟨8, (o : Int), ((k : Int) % 2 == 0), 0, 1, 3, 0, 0, 4⟩ : Ins), endI 15, endI 4] ++ []).toArray 40)).cell? ⟨g7, 1, none⟩ = some (.int .u8 0) ∧ (p2.alloc (.cells (flatV [setI 1 x, setI 3 y, (⟨8, (o : Int), ((k : Int) % 2 == 0), 0, 1, 3, 0, 0, 4⟩ : Ins), endI 15, endI 4] ++ []).toArray 40)).cell? ⟨g7, 2, none⟩ = some (.bool false) ∧ (p2.alloc (.cells (flatV [setI 1 x, setI 3 y, (⟨8, (o : Int), ((k : Int) % 2 == 0), 0, 1, 3, 0, 0, 4⟩ : Ins), endI 15, endI 4] ++ []).toArray 40)).cell? ⟨g7, 3, none⟩ = some (.int .i64 3) ∧ (p2.alloc (.cells (flatV [setI 1 x, setI 3 y, (⟨8, (o : Int), ((k : Int) % 2 == 0), 0, 1, 3, 0, 0, 4⟩ : Ins), endI 15, endI 4] ++ []).toArray 40)).cell? ⟨g7, 4, none⟩ = some (.int .i64 0) ∧ (p2.alloc (.cells (flatV [setI 1 x, setI 3 y, (⟨8, (o : Int), ((k : Int) % 2 == 0), 0, 1, 3, 0, 0, 4⟩ : Ins), endI 15, endI 4] ++ []).toArray 40)).cell? ⟨g7, 5, none⟩ = some (.int .i64 0) ∧ (p2.alloc (.cells (flatV [setI 1 x, setI 3 y, (⟨8, (o : Int), ((k : Int) % 2 == 0), 0, 1, 3, 0, 0, 4⟩ : Ins), endI 15, endI 4] ++ []).toArray 40)).cell? ⟨g7, 6, none⟩ = some (.int .u64 y) ∧ (p2.alloc (.cells (flatV [setI 1 x, setI 3 y, (⟨8, (o : Int), ((k : Int) % 2 == 0), 0, 1, 3, 0, 0, 4⟩ : Ins), endI 15, endI 4] ++ []).toArray 40)).cell? ⟨g7, 7, none⟩ = some (.int .i64 0) ∧ (p2.alloc (.cells (flatV [setI 1 x, setI 3 y, (⟨8, (o : Int), ((k : Int) % 2 == 0), 0, 1, 3, 0, 0, 4⟩ : Ins), endI 15, endI 4] ++ []).toArray 40)).cell? ⟨g7, 8, none⟩ = some (.int .i64 0) ∧ (p2.alloc (.cells (flatV [setI 1 x, setI 3 y, (⟨8, (o : Int), ((k : Int) % 2 == 0), 0, 1, 3, 0, 0, 4⟩ : Ins), endI 15, endI 4] ++ []).toArray 40)).cell? ⟨wp.heap.size, 0, none⟩ = some (.int .u8 8) ∧ (p2.alloc (.cells (flatV [setI 1 x, setI 3 y, (⟨8, (o : Int), ((k : Int) % 2 == 0), 0, 1, 3, 0, 0, 4⟩ : Ins), endI 15, endI 4] ++ []).toArray 40)).cell? ⟨wp.heap.size, 1, none⟩ = some (.int .u8 (o : Int)) ∧ (p2.alloc (.cells (flatV [setI 1 x, setI 3 y, (⟨8, (o : Int), ((k : Int) % 2 == 0), 0, 1, 3, 0, 0, 4⟩ : Ins), endI 15, endI 4] ++ []).toArray 40)).cell? ⟨wp.heap.size, 2, none⟩ = some (.bool ((k : Int) % 2 == 0)) ∧ (p2.alloc (.cells (flatV [setI 1 x, setI 3 y, (⟨8, (o : Int), ((k : Int) % 2 == 0), 0, 1, 3, 0, 0, 4⟩ : Ins), endI 15, endI 4] ++ []).toArray 40)).cell? ⟨wp.heap.size, 3, none⟩ = some (.int .i64 0) ∧ (p2.alloc (.cells (flatV [setI 1 x, setI 3 y, (⟨8, (o : Int), ((k : Int) % 2 == 0), 0, 1, 3, 0, 0, 4⟩ : Ins), endI 15, endI 4] ++ []).toArray 40)).cell? ⟨wp.heap.size, 4, none⟩ = some (.int .i64 1) ∧ (p2.alloc (.cells (flatV [setI 1 x, setI 3 y, (⟨8, (o : Int), ((k : Int) % 2 == 0), 0, 1, 3, 0, 0, 4⟩ : Ins), endI 15, endI 4] ++ []).toArray 40)).cell? ⟨wp.heap.size, 5, none⟩ = some (.int .i64 3) ∧ (p2.alloc (.cells (flatV [setI 1 x, setI 3 y, (⟨8, (o : Int), ((k : Int) % 2 == 0), 0, 1, 3, 0, 0, 4⟩ : Ins), endI 15, endI 4] ++ []).toArray 40)).cell? ⟨wp.heap.size, 6, none⟩ = some (.int .u64 0) ∧ (p2.alloc (.cells (flatV [setI 1 x, setI 3 y, (⟨8, (o : Int), ((k : Int) % 2 == 0), 0, 1, 3, 0, 0, 4⟩ : Ins), endI 15, endI 4] ++ []).toArray 40)).cell? ⟨wp.heap.size, 7, none⟩ = some (.int .i64 0) ∧ (p2.alloc (.cells (flatV [setI 1 x, setI 3 y, (⟨8, (o : Int), ((k : Int) % 2 == 0), 0, 1, 3, 0, 0, 4⟩ : Ins), endI 15, endI 4] ++ []).toArray 40)).cell? ⟨wp.heap.size, 8, none⟩ = some (.int .i64 4) := ⟨(World.cell?_alloc_past _ _ _ (show g6 < p2.heap.size by omega)).trans hS.1, (World.cell?_alloc_past _ _ _ (show g6 < p2.heap.size by omega)).trans hS.2.1, (World.cell?_alloc_past _ _ _ (show g6 < p2.heap.size by omega)).trans hS.2.2.1, (World.cell?_alloc_past _ _ _ (show g6 < p2.heap.size by omega)).trans hS.2.2.2.1, (World.cell?_alloc_past _ _ _ (show g6 < p2.heap.size by omega)).trans hS.2.2.2.2.1, (World.cell?_alloc_past _ _ _ (show g6 < p2.heap.size by omega)).trans hS.2.2.2.2.2.1, (World.cell?_alloc_past _ _ _ (show g6 < p2.heap.size by omega)).trans hS.2.2.2.2.2.2.1, (World.cell?_alloc_past _ _ _ (show g6 < p2.heap.size by omega)).trans hS.2.2.2.2.2.2.2.1, (World.cell?_alloc_past _ _ _ (show g6 < p2.heap.size by omega)).trans hS.2.2.2.2.2.2.2.2.1, (World.cell?_alloc_past _ _ _ (show g7 < p2.heap.size by omega)).trans hS.2.2.2.2.2.2.2.2.2.1, (World.cell?_alloc_past _ _ _ (show g7 < p2.heap.size by omega)).trans hS.2.2.2.2.2.2.2.2.2.2.1, (World.cell?_alloc_past _ _ _ (show g7 < p2.heap.size by omega)).trans hS.2.2.2.2.2.2.2.2.2.2.2.1, (World.cell?_alloc_past _ _ _ (show g7 < p2.heap.size by omega)).trans hS.2.2.2.2.2.2.2.2.2.2.2.2.1, (World.cell?_alloc_past _ _ _ (show g7 < p2.heap.size by omega)).trans hS.2.2.2.2.2.2.2.2.2.2.2.2.2.1, (World.cell?_alloc_past _ _ _ (show g7 < p2.heap.size by omega)).trans hS.2.2.2.2.2.2.2.2.2.2.2.2.2.2.1, (World.cell?_alloc_past _ _ _ (show g7 < p2.heap.size by omega)).trans hS.2.2.2.2.2.2.2.2.2.2.2.2.2.2.2.1, (World.cell?_alloc_past _ _ _ (show g7 < p2.heap.size by omega)).trans hS.2.2.2.2.2.2.2.2.2.2.2.2.2.2.2.2.1, (World.cell?_alloc_past _ _ _ (show g7 < p2.heap.size by omega)).trans hS.2.2.2.2.2.2.2.2.2.2.2.2.2.2.2.2.2.1, (World.cell?_alloc_past _ _ _ (show wp.heap.size < p2.heap.size by omega)).trans hS.2.2.2.2.2.2.2.2.2.2.2.2.2.2.2.2.2.2.1, (World.cell?_alloc_past _ _ _ (show wp.heap.size < p2.heap.size by omega)).trans hS.2.2.2.2.2.2.2.2.2.2.2.2.2.2.2.2.2.2.2.1, (World.cell?_alloc_past _ _ _ (show wp.heap.size < p2.heap.size by omega)).trans hS.2.2.2.2.2.2.2.2.2.2.2.2.2.2.2.2.2.2.2.2.1, (World.cell?_alloc_past _ _ _ (show wp.heap.size < p2.heap.size by omega)).trans hS.2.2.2.2.2.2.2.2.2.2.2.2.2.2.2.2.2.2.2.2.2.1, (World.cell?_alloc_past _ _ _ (show wp.heap.size < p2.heap.size by omega)).trans hS.2.2.2.2.2.2.2.2.2.2.2.2.2.2.2.2.2.2.2.2.2.2.1, (World.cell?_alloc_past _ _ _ (show wp.heap.size < p2.heap.size by omega)).trans hS.2.2.2.2.2.2.2.2.2.2.2.2.2.2.2.2.2.2.2.2.2.2.2.1, (World.cell?_alloc_past _ _ _ (show wp.heap.size < p2.heap.size by omega)).trans hS.2.2.2.2.2.2.2.2.2.2.2.2.2.2.2.2.2.2.2.2.2.2.2.2.1, (World.cell?_alloc_past _ _ _ (show wp.heap.size < p2.heap.size by omega)).trans hS.2.2.2.2.2.2.2.2.2.2.2.2.2.2.2.2.2.2.2.2.2.2.2.2.2.1, (World.cell?_alloc_past _ _ _ (show wp.heap.size < p2.heap.size by omega)).trans hS.2.2.2.2.2.2.2.2.2.2.2.2.2.2.2.2.2.2.2.2.2.2.2.2.2.2⟩
                          refine hK _ _ hSn (fun hS => ?_)
                          clear hK K hSn
                          try simp only [List.getElem_toArray, List.getElem_cons_zero, List.getElem_cons_succ, Act.put, List.setIfInBounds_toArray, List.set_cons_zero, List.set_cons_succ]
                          refine wpAnyH_ready (rs := [7]) (by kernel_rfl) (by simp) (AllReadyH.cons rfl (fun K hK => ?_) AllReadyH.nil)
                          have hw12 : Below wq.heap.size wq p2 := (Below.refl _ _).drew.trans (hb1.trans (hb2.mono hq1))
                          go_simp
                          refine (doesF_any (some ⟨p2.heap.size, 0, none⟩) 5 [setI 1 x, setI 3 y, (⟨8, (o : Int), ((k : Int) % 2 == 0), 0, 1, 3, 0, 0, 4⟩ : Ins), endI 15, endI 4] (some ⟨w.heap.size, 0, none⟩) 9 pkN _ (inss_bk (ext := []) (Bk.new p2 40 (flatV [setI 1 x, setI 3 y, (⟨8, (o : Int), ((k : Int) % 2 == 0), 0, 1, 3, 0, 0, 4⟩ : Ins), endI 15, endI 4] ++ [])) (by simp) (by decide)) HOKF.out (bk_rd ((HPQ.out.below hw12 HPQ.out.lt).alloc _) 9) (by decide) (by decide)).mono ?_
                          rintro _ p3 ⟨rfl, hb3⟩
                          have hSn : p3.cell? ⟨g6, 0, none⟩ = some (.int .u8 1) ∧ p3.cell? ⟨g6, 1, none⟩ = some (.int .u8 0) ∧ p3.cell? ⟨g6, 2, none⟩ = some (.bool false) ∧ p3.cell? ⟨g6, 3, none⟩ = some (.int .i64 1) ∧ p3.cell? ⟨g6, 4, none⟩ = some (.int .i64 0) ∧ p3.cell? ⟨g6, 5, none⟩ = some (.int .i64 0) ∧ p3.cell? ⟨g6, 6, none⟩ = some (.int .u64 x) ∧ p3.cell? ⟨g6, 7, none⟩ = some (.int .i64 0) ∧ p3.cell? ⟨g6, 8, none⟩ = some (.int .i64 0) ∧ p3.cell? ⟨g7, 0, none⟩ = some (.int .u8 1) ∧ p3.cell? ⟨g7, 1, none⟩ = some (.int .u8 0) ∧ p3.cell? ⟨g7, 2, none⟩ = some (.bool false) ∧ p3.cell? ⟨g7, 3, none⟩ = some (.int .i64 3) ∧ p3.cell? ⟨g7, 4, none⟩ = some (.int .i64 0) ∧ p3.cell? ⟨g7, 5, none⟩ = some (.int .i64 0) ∧ p3.cell? ⟨g7, 6, none⟩ = some (.int .u64 y) ∧ p3.cell? ⟨g7, 7, none⟩ = some (.int .i64 0) ∧ p3.cell? ⟨g7, 8, none⟩ = some (.int .i64 0) ∧ p3.cell? ⟨wp.heap.size, 0, none⟩ = some (.int .u8 8) ∧ p3.cell? ⟨wp.heap.size, 1, none⟩ = some (.int .u8 (o : Int)) ∧ p3.cell? ⟨wp.heap.size, 2, none⟩ = some (.bool ((k : Int) % 2 == 0)) ∧ p3.cell? ⟨wp.heap.size, 3, none⟩ = some (.int .i64 0) ∧ p3.cell? ⟨wp.heap.size, 4, none⟩ = some (.int .i64 1) ∧ p3.cell? ⟨wp.heap.size, 5, none⟩ = some (.int .i64 3) ∧ p3.cell? ⟨wp.heap.size, 6, none⟩ = some (.int .u64 0) ∧ p3.cell? ⟨wp.heap.size, 7, none⟩ = some (.int .i64 0) ∧ p3.cell? ⟨wp.heap.size, 8, none⟩ = some (.int .i64 4) := ⟨(hb3.cell (p := ⟨g6, 0, none⟩) (by simp; omega)).trans hS.1, (hb3.cell (p := ⟨g6, 1, none⟩) (by simp; omega)).trans hS.2.1, (hb3.cell (p := ⟨g6, 2, none⟩) (by simp; omega)).trans hS.2.2.1, (hb3.cell (p := ⟨g6, 3, none⟩) (by simp; omega)).trans hS.2.2.2.1, (hb3.cell (p := ⟨g6, 4, none⟩) (by simp; omega)).trans hS.2.2.2.2.1, (hb3.cell (p := ⟨g6, 5, none⟩) (by simp; omega)).trans hS.2.2.2.2.2.1, (hb3.cell (p := ⟨g6, 6, none⟩) (by simp; omega)).trans hS.2.2.2.2.2.2.1, (hb3.cell (p := ⟨g6, 7, none⟩) (by simp; omega)).trans hS.2.2.2.2.2.2.2.1, (hb3.cell (p := ⟨g6, 8, none⟩) (by simp; omega)).trans hS.2.2.2.2.2.2.2.2.1, (hb3.cell (p := ⟨g7, 0, none⟩) (by simp; omega)).trans hS.2.2.2.2.2.2.2.2.2.1, (hb3.cell (p := ⟨g7, 1, none⟩) (by simp; omega)).trans hS.2.2.2.2.2.2.2.2.2.2.1, (hb3.cell (p := ⟨g7, 2, none⟩) (by simp; omega)).trans hS.2.2.2.2.2.2.2.2.2.2.2.1, (hb3.cell (p := ⟨g7, 3, none⟩) (by simp; omega)).trans hS.2.2.2.2.2.2.2.2.2.2.2.2.1, (hb3.cell (p := ⟨g7, 4, none⟩) (by simp; omega)).trans hS.2.2.2.2.2.2.2.2.2.2.2.2.2.1, (hb3.cell (p := ⟨g7, 5, none⟩) (by simp; omega)).trans hS.2.2.2.2.2.2.2.2.2.2.2.2.2.2.1, (hb3.cell (p := ⟨g7, 6, none⟩) (by simp; omega)).trans hS.2.2.2.2.2.2.2.2.2.2.2.2.2.2.2.1, (hb3.cell (p := ⟨g7, 7, none⟩) (by simp; omega)).trans hS.2.2.2.2.2.2.2.2.2.2.2.2.2.2.2.2.1, (hb3.cell (p := ⟨g7, 8, none⟩) (by simp; omega)).trans hS.2.2.2.2.2.2.2.2.2.2.2.2.2.2.2.2.2.1, (hb3.cell (p := ⟨wp.heap.size, 0, none⟩) (by simp; omega)).trans hS.2.2.2.2.2.2.2.2.2.2.2.2.2.2.2.2.2.2.1, (hb3.cell (p := ⟨wp.heap.size, 1, none⟩) (by simp; omega)).trans hS.2.2.2.2.2.2.2.2.2.2.2.2.2.2.2.2.2.2.2.1, (hb3.cell (p := ⟨wp.heap.size, 2, none⟩) (by simp; omega)).trans hS.2.2.2.2.2.2.2.2.2.2.2.2.2.2.2.2.2.2.2.2.1, (hb3.cell (p := ⟨wp.heap.size, 3, none⟩) (by simp; omega)).trans hS.2.2.2.2.2.2.2.2.2.2.2.2.2.2.2.2.2.2.2.2.2.1, (hb3.cell (p := ⟨wp.heap.size, 4, none⟩) (by simp; omega)).trans hS.2.2.2.2.2.2.2.2.2.2.2.2.2.2.2.2.2.2.2.2.2.2.1, (hb3.cell (p := ⟨wp.heap.size, 5, none⟩) (by simp; omega)).trans hS.2.2.2.2.2.2.2.2.2.2.2.2.2.2.2.2.2.2.2.2.2.2.2.1, (hb3.cell (p := ⟨wp.heap.size, 6, none⟩) (by simp; omega)).trans hS.2.2.2.2.2.2.2.2.2.2.2.2.2.2.2.2.2.2.2.2.2.2.2.2.1, (hb3.cell (p := ⟨wp.heap.size, 7, none⟩) (by simp; omega)).trans hS.2.2.2.2.2.2.2.2.2.2.2.2.2.2.2.2.2.2.2.2.2.2.2.2.2.1, (hb3.cell (p := ⟨wp.heap.size, 8, none⟩) (by simp; omega)).trans hS.2.2.2.2.2.2.2.2.2.2.2.2.2.2.2.2.2.2.2.2.2.2.2.2.2.2⟩
                          have HE28 : Hid (Below wq.heap.size wq p3) := Lib.hid (hw12.trans (((Below.refl _ _).alloc (Nat.le_refl _) _).trans (hb3.mono (by simp)) |>.mono (by omega)))
                          go_simp
                          refine hK _ _ hSn (fun hS => ?_)
                          clear hK K hSn
                          try simp only [List.getElem_toArray, List.getElem_cons_zero, List.getElem_cons_succ, Act.put, List.setIfInBounds_toArray, List.set_cons_zero, List.set_cons_succ]
                          refine wpAnyH_take (i := 8) (v := ?_) rfl (by kernel_rfl) (by kernel_rfl) (by kernel_rfl) (fun _ _ _ h => h) (Or.inl ⟨by rfl, ?_⟩) hS ?_
                          rotate_left 1
                          · intro w' hSw
                            go_simp <;> with_reducible rfl
                          try simp only [List.getElem_toArray, List.getElem_cons_zero, List.getElem_cons_succ, Act.put, List.setIfInBounds_toArray, List.set_cons_zero, List.set_cons_succ]
                          refine wpAnyH_done (by kernel_rfl) ?_ _
                          go_wp2_with fail
                          go_meet
                          exact ⟨rfl, HE28.out⟩
                        case rest =>
                          obtain ⟨rfl, hb5⟩ := hcut
                          go_wp2_with fail
                          go_roundw
                          case rel => exact ⟨o + 1, by omega, by omega, by go_num, HKO.out.trans ((HQB.out.trans (hb5.mono hqs)).mono HKO.out.size)⟩
                          case measure => simp [intOf]; omega
                      · have q2 : decide ((13 : Int) < (o : Int)) = false := decide_eq_false (by omega)
                        clear h13
                        have h12 : Bk (wp.alloc (.cells #[.int .u8 3, .int .u8 (o : Int), .bool ((k : Int) % 2 == 0), .int .i64 4, .int .i64 1, .int .i64 3, .int .u64 0, .int .i64 0, .int .i64 0] 40)) wp.heap.size 40 (insV (⟨3, (o : Int), ((k : Int) % 2 == 0), 4, 1, 3, 0, 0, 0⟩ : Ins)) := Bk.new wp 40 (insV (⟨3, (o : Int), ((k : Int) % 2 == 0), 4, 1, 3, 0, 0, 0⟩ : Ins))
                        have hqb : Below wp.heap.size wp (wp.alloc (.cells #[.int .u8 3, .int .u8 (o : Int), .bool ((k : Int) % 2 == 0), .int .i64 4, .int .i64 1, .int .i64 3, .int .u64 0, .int .i64 0, .int .i64 0] 40)) := (Below.refl _ _).alloc (Nat.le_refl _) _
                        go_upto_region 28 with (fail)
                        generalize wp.alloc (.cells #[.int .u8 3, .int .u8 (o : Int), .bool ((k : Int) % 2 == 0), .int .i64 4, .int .i64 1, .int .i64 3, .int .u64 0, .int .i64 0, .int .i64 0] 40) = wq at *
                        have hqs := hqb.size
                        have h6 := HK6.out.below hqb HK6.out.lt
                        have h7 := HK7.out.below hqb HK7.out.lt
                        have HPQ := Lib.hid (HP5.out.below hqb HP5.out.lt)
                        have HQB := Lib.hid hqb
                        have l6 := h6.lt
                        have l7 := h7.lt
                        have l12 := h12.lt
                        have hS0 := s27 h6 h7 h12
                        have okF : ∀ f ∈ [setI 1 x, setI 3 y, (⟨3, (o : Int), ((k : Int) % 2 == 0), 4, 1, 3, 0, 0, 0⟩ : Ins), endI 15, endI 4], InsOk f := by
                          intro f hf
                          simp at hf
                          rcases hf with rfl | rfl | rfl | rfl | rfl
                          · exact okS _ _ x0 x1
                          · exact okS _ _ y0 y1
                          · exact ⟨by show (0 : Int) ≤ (o : Int); omega, Int.le_refl 0, by show (0 : Int) ≤ _; omega⟩
                          · exact okE 15
                          · exact okE 4
                        have HOKF := Lib.hid okF
                        clear okF h6 h7 h12 hqb
                        go_cut [123] (fun v wx => v = .bool false ∧ Below wq.heap.size wq wx)
                        case first =>
                          refine wp_region_held_drew (S := fun w' => w'.cell? ⟨g6, 0, none⟩ = some (.int .u8 1) ∧ w'.cell? ⟨g6, 1, none⟩ = some (.int .u8 0) ∧ w'.cell? ⟨g6, 2, none⟩ = some (.bool false) ∧ w'.cell? ⟨g6, 3, none⟩ = some (.int .i64 1) ∧ w'.cell? ⟨g6, 4, none⟩ = some (.int .i64 0) ∧ w'.cell? ⟨g6, 5, none⟩ = some (.int .i64 0) ∧ w'.cell? ⟨g6, 6, none⟩ = some (.int .u64 x) ∧ w'.cell? ⟨g6, 7, none⟩ = some (.int .i64 0) ∧ w'.cell? ⟨g6, 8, none⟩ = some (.int .i64 0) ∧ w'.cell? ⟨g7, 0, none⟩ = some (.int .u8 1) ∧ w'.cell? ⟨g7, 1, none⟩ = some (.int .u8 0) ∧ w'.cell? ⟨g7, 2, none⟩ = some (.bool false) ∧ w'.cell? ⟨g7, 3, none⟩ = some (.int .i64 3) ∧ w'.cell? ⟨g7, 4, none⟩ = some (.int .i64 0) ∧ w'.cell? ⟨g7, 5, none⟩ = some (.int .i64 0) ∧ w'.cell? ⟨g7, 6, none⟩ = some (.int .u64 y) ∧ w'.cell? ⟨g7, 7, none⟩ = some (.int .i64 0) ∧ w'.cell? ⟨g7, 8, none⟩ = some (.int .i64 0) ∧ w'.cell? ⟨wp.heap.size, 0, none⟩ = some (.int .u8 3) ∧ w'.cell? ⟨wp.heap.size, 1, none⟩ = some (.int .u8 (o : Int)) ∧ w'.cell? ⟨wp.heap.size, 2, none⟩ = some (.bool ((k : Int) % 2 == 0)) ∧ w'.cell? ⟨wp.heap.size, 3, none⟩ = some (.int .i64 4) ∧ w'.cell? ⟨wp.heap.size, 4, none⟩ = some (.int .i64 1) ∧ w'.cell? ⟨wp.heap.size, 5, none⟩ = some (.int .i64 3) ∧ w'.cell? ⟨wp.heap.size, 6, none⟩ = some (.int .u64 0) ∧ w'.cell? ⟨wp.heap.size, 7, none⟩ = some (.int .i64 0) ∧ w'.cell? ⟨wp.heap.size, 8, none⟩ = some (.int .i64 0)) (by kernel_rfl) hS0 (fun hS => ?_)
                          refine wpAnyH_take (i := 0) (v := ?_) rfl (by kernel_rfl) (by kernel_rfl) (by kernel_rfl) (fun _ _ _ h => h) (Or.inl ⟨by rfl, ?_⟩) hS ?_
                          rotate_left 1
                          · intro w' hSw
                            go_simp <;> with_reducible rfl
                          try simp only [List.getElem_toArray, List.getElem_cons_zero, List.getElem_cons_succ, Act.put, List.setIfInBounds_toArray, List.set_cons_zero, List.set_cons_succ]
                          refine wpAnyH_take (i := 1) (v := ?_) rfl (by kernel_rfl) (by kernel_rfl) (by kernel_rfl) (fun _ _ _ h => h) (Or.inl ⟨by rfl, ?_⟩) hS ?_
                          rotate_left 1
                          · intro w' hSw
                            go_simp <;> with_reducible rfl
                          try simp only [List.getElem_toArray, List.getElem_cons_zero, List.getElem_cons_succ, Act.put, List.setIfInBounds_toArray, List.set_cons_zero, List.set_cons_succ]
                          refine wpAnyH_take (i := 2) (v := ?_) rfl (by kernel_rfl) (by kernel_rfl) (by kernel_rfl) (fun _ _ _ h => h) (Or.inl ⟨by rfl, ?_⟩) hS ?_
                          rotate_left 1
                          · intro w' hSw
                            go_simp <;> with_reducible rfl
                          try simp only [List.getElem_toArray, List.getElem_cons_zero, List.getElem_cons_succ, Act.put, List.setIfInBounds_toArray, List.set_cons_zero, List.set_cons_succ]
                          refine wpAnyH_take (i := 3) (v := ?_) rfl (by kernel_rfl) (by kernel_rfl) (by kernel_rfl) (fun _ _ _ h => h) (Or.inl ⟨by rfl, ?_⟩) hS ?_
                          rotate_left 1
                          · intro w' hSw
                            go_simp <;> with_reducible rfl
                          try simp only [List.getElem_toArray, List.getElem_cons_zero, List.getElem_cons_succ, Act.put, List.setIfInBounds_toArray, List.set_cons_zero, List.set_cons_succ]
                          refine wpAnyH_ready (rs := [4]) (by kernel_rfl) (by simp) (AllReadyH.cons rfl (fun K hK => ?_) AllReadyH.nil)
                          go_simp
                          refine (HEA.out _ _).mono ?_
                          rintro _ p1 ⟨rfl, hb1⟩
                          have hq1 : wq.heap.size ≤ p1.heap.size := hb1.size
                          have hSn : p1.cell? ⟨g6, 0, none⟩ = some (.int .u8 1) ∧ p1.cell? ⟨g6, 1, none⟩ = some (.int .u8 0) ∧ p1.cell? ⟨g6, 2, none⟩ = some (.bool false) ∧ p1.cell? ⟨g6, 3, none⟩ = some (.int .i64 1) ∧ p1.cell? ⟨g6, 4, none⟩ = some (.int .i64 0) ∧ p1.cell? ⟨g6, 5, none⟩ = some (.int .i64 0) ∧ p1.cell? ⟨g6, 6, none⟩ = some (.int .u64 x) ∧ p1.cell? ⟨g6, 7, none⟩ = some (.int .i64 0) ∧ p1.cell? ⟨g6, 8, none⟩ = some (.int .i64 0) ∧ p1.cell? ⟨g7, 0, none⟩ = some (.int .u8 1) ∧ p1.cell? ⟨g7, 1, none⟩ = some (.int .u8 0) ∧ p1.cell? ⟨g7, 2, none⟩ = some (.bool false) ∧ p1.cell? ⟨g7, 3, none⟩ = some (.int .i64 3) ∧ p1.cell? ⟨g7, 4, none⟩ = some (.int .i64 0) ∧ p1.cell? ⟨g7, 5, none⟩ = some (.int .i64 0) ∧ p1.cell? ⟨g7, 6, none⟩ = some (.int .u64 y) ∧ p1.cell? ⟨g7, 7, none⟩ = some (.int .i64 0) ∧ p1.cell? ⟨g7, 8, none⟩ = some (.int .i64 0) ∧ p1.cell? ⟨wp.heap.size, 0, none⟩ = some (.int .u8 3) ∧ p1.cell? ⟨wp.heap.size, 1, none⟩ = some (.int .u8 (o : Int)) ∧ p1.cell? ⟨wp.heap.size, 2, none⟩ = some (.bool ((k : Int) % 2 == 0)) ∧ p1.cell? ⟨wp.heap.size, 3, none⟩ = some (.int .i64 4) ∧ p1.cell? ⟨wp.heap.size, 4, none⟩ = some (.int .i64 1) ∧ p1.cell? ⟨wp.heap.size, 5, none⟩ = some (.int .i64 3) ∧ p1.cell? ⟨wp.heap.size, 6, none⟩ = some (.int .u64 0) ∧ p1.cell? ⟨wp.heap.size, 7, none⟩ = some (.int .i64 0) ∧ p1.cell? ⟨wp.heap.size, 8, none⟩ = some (.int .i64 0) := ⟨(hb1.cell (p := ⟨g6, 0, none⟩) (show g6 < wq.heap.size from l6)).trans hS.1, (hb1.cell (p := ⟨g6, 1, none⟩) (show g6 < wq.heap.size from l6)).trans hS.2.1, (hb1.cell (p := ⟨g6, 2, none⟩) (show g6 < wq.heap.size from l6)).trans hS.2.2.1, (hb1.cell (p := ⟨g6, 3, none⟩) (show g6 < wq.heap.size from l6)).trans hS.2.2.2.1, (hb1.cell (p := ⟨g6, 4, none⟩) (show g6 < wq.heap.size from l6)).trans hS.2.2.2.2.1, (hb1.cell (p := ⟨g6, 5, none⟩) (show g6 < wq.heap.size from l6)).trans hS.2.2.2.2.2.1, (hb1.cell (p := ⟨g6, 6, none⟩) (show g6 < wq.heap.size from l6)).trans hS.2.2.2.2.2.2.1, (hb1.cell (p := ⟨g6, 7, none⟩) (show g6 < wq.heap.size from l6)).trans hS.2.2.2.2.2.2.2.1, (hb1.cell (p := ⟨g6, 8, none⟩) (show g6 < wq.heap.size from l6)).trans hS.2.2.2.2.2.2.2.2.1, (hb1.cell (p := ⟨g7, 0, none⟩) (show g7 < wq.heap.size from l7)).trans hS.2.2.2.2.2.2.2.2.2.1, (hb1.cell (p := ⟨g7, 1, none⟩) (show g7 < wq.heap.size from l7)).trans hS.2.2.2.2.2.2.2.2.2.2.1, (hb1.cell (p := ⟨g7, 2, none⟩) (show g7 < wq.heap.size from l7)).trans hS.2.2.2.2.2.2.2.2.2.2.2.1, (hb1.cell (p := ⟨g7, 3, none⟩) (show g7 < wq.heap.size from l7)).trans hS.2.2.2.2.2.2.2.2.2.2.2.2.1, (hb1.cell (p := ⟨g7, 4, none⟩) (show g7 < wq.heap.size from l7)).trans hS.2.2.2.2.2.2.2.2.2.2.2.2.2.1, (hb1.cell (p := ⟨g7, 5, none⟩) (show g7 < wq.heap.size from l7)).trans hS.2.2.2.2.2.2.2.2.2.2.2.2.2.2.1, (hb1.cell (p := ⟨g7, 6, none⟩) (show g7 < wq.heap.size from l7)).trans hS.2.2.2.2.2.2.2.2.2.2.2.2.2.2.2.1, (hb1.cell (p := ⟨g7, 7, none⟩) (show g7 < wq.heap.size from l7)).trans hS.2.2.2.2.2.2.2.2.2.2.2.2.2.2.2.2.1, (hb1.cell (p := ⟨g7, 8, none⟩) (show g7 < wq.heap.size from l7)).trans hS.2.2.2.2.2.2.2.2.2.2.2.2.2.2.2.2.2.1, (hb1.cell (p := ⟨wp.heap.size, 0, none⟩) (show wp.heap.size < wq.heap.size from l12)).trans hS.2.2.2.2.2.2.2.2.2.2.2.2.2.2.2.2.2.2.1, (hb1.cell (p := ⟨wp.heap.size, 1, none⟩) (show wp.heap.size < wq.heap.size from l12)).trans hS.2.2.2.2.2.2.2.2.2.2.2.2.2.2.2.2.2.2.2.1, (hb1.cell (p := ⟨wp.heap.size, 2, none⟩) (show wp.heap.size < wq.heap.size from l12)).trans hS.2.2.2.2.2.2.2.2.2.2.2.2.2.2.2.2.2.2.2.2.1, (hb1.cell (p := ⟨wp.heap.size, 3, none⟩) (show wp.heap.size < wq.heap.size from l12)).trans hS.2.2.2.2.2.2.2.2.2.2.2.2.2.2.2.2.2.2.2.2.2.1, (hb1.cell (p := ⟨wp.heap.size, 4, none⟩) (show wp.heap.size < wq.heap.size from l12)).trans hS.2.2.2.2.2.2.2.2.2.2.2.2.2.2.2.2.2.2.2.2.2.2.1, (hb1.cell (p := ⟨wp.heap.size, 5, none⟩) (show wp.heap.size < wq.heap.size from l12)).trans hS.2.2.2.2.2.2.2.2.2.2.2.2.2.2.2.2.2.2.2.2.2.2.2.1, (hb1.cell (p := ⟨wp.heap.size, 6, none⟩) (show wp.heap.size < wq.heap.size from l12)).trans hS.2.2.2.2.2.2.2.2.2.2.2.2.2.2.2.2.2.2.2.2.2.2.2.2.1, (hb1.cell (p := ⟨wp.heap.size, 7, none⟩) (show wp.heap.size < wq.heap.size from l12)).trans hS.2.2.2.2.2.2.2.2.2.2.2.2.2.2.2.2.2.2.2.2.2.2.2.2.2.1, (hb1.cell (p := ⟨wp.heap.size, 8, none⟩) (show wp.heap.size < wq.heap.size from l12)).trans hS.2.2.2.2.2.2.2.2.2.2.2.2.2.2.2.2.2.2.2.2.2.2.2.2.2.2⟩
                          go_simp
                          refine hK _ _ hSn (fun hS => ?_)
                          clear hK K hSn
                          try simp only [List.getElem_toArray, List.getElem_cons_zero, List.getElem_cons_succ, Act.put, List.setIfInBounds_toArray, List.set_cons_zero, List.set_cons_succ]
                          refine wpAnyH_ready (rs := [5]) (by kernel_rfl) (by simp) (AllReadyH.cons rfl (fun K hK => ?_) AllReadyH.nil)
                          go_simp
                          refine (HEA.out _ _).mono ?_
                          rintro _ p2 ⟨rfl, hb2⟩
                          have hq2 : p1.heap.size ≤ p2.heap.size := hb2.size
                          have hSn : p2.cell? ⟨g6, 0, none⟩ = some (.int .u8 1) ∧ p2.cell? ⟨g6, 1, none⟩ = some (.int .u8 0) ∧ p2.cell? ⟨g6, 2, none⟩ = some (.bool false) ∧ p2.cell? ⟨g6, 3, none⟩ = some (.int .i64 1) ∧ p2.cell? ⟨g6, 4, none⟩ = some (.int .i64 0) ∧ p2.cell? ⟨g6, 5, none⟩ = some (.int .i64 0) ∧ p2.cell? ⟨g6, 6, none⟩ = some (.int .u64 x) ∧ p2.cell? ⟨g6, 7, none⟩ = some (.int .i64 0) ∧ p2.cell? ⟨g6, 8, none⟩ = some (.int .i64 0) ∧ p2.cell? ⟨g7, 0, none⟩ = some (.int .u8 1) ∧ p2.cell? ⟨g7, 1, none⟩ = some (.int .u8 0) ∧ p2.cell? ⟨g7, 2, none⟩ = some (.bool false) ∧ p2.cell? ⟨g7, 3, none⟩ = some (.int .i64 3) ∧ p2.cell? ⟨g7, 4, none⟩ = some (.int .i64 0) ∧ p2.cell? ⟨g7, 5, none⟩ = some (.int .i64 0) ∧ p2.cell? ⟨g7, 6, none⟩ = some (.int .u64 y) ∧ p2.cell? ⟨g7, 7, none⟩ = some (.int .i64 0) ∧ p2.cell? ⟨g7, 8, none⟩ = some (.int .i64 0) ∧ p2.cell? ⟨wp.heap.size, 0, none⟩ = some (.int .u8 3) ∧ p2.cell? ⟨wp.heap.size, 1, none⟩ = some (.int .u8 (o : Int)) ∧ p2.cell? ⟨wp.heap.size, 2, none⟩ = some (.bool ((k : Int) % 2 == 0)) ∧ p2.cell? ⟨wp.heap.size, 3, none⟩ = some (.int .i64 4) ∧ p2.cell? ⟨wp.heap.size, 4, none⟩ = some (.int .i64 1) ∧ p2.cell? ⟨wp.heap.size, 5, none⟩ = some (.int .i64 3) ∧ p2.cell? ⟨wp.heap.size, 6, none⟩ = some (.int .u64 0) ∧ p2.cell? ⟨wp.heap.size, 7, none⟩ = some (.int .i64 0) ∧ p2.cell? ⟨wp.heap.size, 8, none⟩ = some (.int .i64 0) := ⟨(hb2.cell (p := ⟨g6, 0, none⟩) (show g6 < p1.heap.size by omega)).trans hS.1, (hb2.cell (p := ⟨g6, 1, none⟩) (show g6 < p1.heap.size by omega)).trans hS.2.1, (hb2.cell (p := ⟨g6, 2, none⟩) (show g6 < p1.heap.size by omega)).trans hS.2.2.1, (hb2.cell (p := ⟨g6, 3, none⟩) (show g6 < p1.heap.size by omega)).trans hS.2.2.2.1, (hb2.cell (p := ⟨g6, 4, none⟩) (show g6 < p1.heap.size by omega)).trans hS.2.2.2.2.1, (hb2.cell (p := ⟨g6, 5, none⟩) (show g6 < p1.heap.size by omega)).trans hS.2.2.2.2.2.1, (hb2.cell (p := ⟨g6, 6, none⟩) (show g6 < p1.heap.size by omega)).trans hS.2.2.2.2.2.2.1, (hb2.cell (p := ⟨g6, 7, none⟩) (show g6 < p1.heap.size by omega)).trans hS.2.2.2.2.2.2.2.1, (hb2.cell (p := ⟨g6, 8, none⟩) (show g6 < p1.heap.size by omega)).trans hS.2.2.2.2.2.2.2.2.1, (hb2.cell (p := ⟨g7, 0, none⟩) (show g7 < p1.heap.size by omega)).trans hS.2.2.2.2.2.2.2.2.2.1, (hb2.cell (p := ⟨g7, 1, none⟩) (show g7 < p1.heap.size by omega)).trans hS.2.2.2.2.2.2.2.2.2.2.1, (hb2.cell (p := ⟨g7, 2, none⟩) (show g7 < p1.heap.size by omega)).trans hS.2.2.2.2.2.2.2.2.2.2.2.1, (hb2.cell (p := ⟨g7, 3, none⟩) (show g7 < p1.heap.size by omega)).trans hS.2.2.2.2.2.2.2.2.2.2.2.2.1, (hb2.cell (p := ⟨g7, 4, none⟩) (show g7 < p1.heap.size by omega)).trans hS.2.2.2.2.2.2.2.2.2.2.2.2.2.1, (hb2.cell (p := ⟨g7, 5, none⟩) (show g7 < p1.heap.size by omega)).trans hS.2.2.2.2.2.2.2.2.2.2.2.2.2.2.1, (hb2.cell (p := ⟨g7, 6, none⟩) (show g7 < p1.heap.size by omega)).trans hS.2.2.2.2.2.2.2.2.2.2.2.2.2.2.2.1, (hb2.cell (p := ⟨g7, 7, none⟩) (show g7 < p1.heap.size by omega)).trans hS.2.2.2.2.2.2.2.2.2.2.2.2.2.2.2.2.1, (hb2.cell (p := ⟨g7, 8, none⟩) (show g7 < p1.heap.size by omega)).trans hS.2.2.2.2.2.2.2.2.2.2.2.2.2.2.2.2.2.1, (hb2.cell (p := ⟨wp.heap.size, 0, none⟩) (show wp.heap.size < p1.heap.size by omega)).trans hS.2.2.2.2.2.2.2.2.2.2.2.2.2.2.2.2.2.2.1, (hb2.cell (p := ⟨wp.heap.size, 1, none⟩) (show wp.heap.size < p1.heap.size by omega)).trans hS.2.2.2.2.2.2.2.2.2.2.2.2.2.2.2.2.2.2.2.1, (hb2.cell (p := ⟨wp.heap.size, 2, none⟩) (show wp.heap.size < p1.heap.size by omega)).trans hS.2.2.2.2.2.2.2.2.2.2.2.2.2.2.2.2.2.2.2.2.1, (hb2.cell (p := ⟨wp.heap.size, 3, none⟩) (show wp.heap.size < p1.heap.size by omega)).trans hS.2.2.2.2.2.2.2.2.2.2.2.2.2.2.2.2.2.2.2.2.2.1, (hb2.cell (p := ⟨wp.heap.size, 4, none⟩) (show wp.heap.size < p1.heap.size by omega)).trans hS.2.2.2.2.2.2.2.2.2.2.2.2.2.2.2.2.2.2.2.2.2.2.1, (hb2.cell (p := ⟨wp.heap.size, 5, none⟩) (show wp.heap.size < p1.heap.size by omega)).trans hS.2.2.2.2.2.2.2.2.2.2.2.2.2.2.2.2.2.2.2.2.2.2.2.1, (hb2.cell (p := ⟨wp.heap.size, 6, none⟩) (show wp.heap.size < p1.heap.size by omega)).trans hS.2.2.2.2.2.2.2.2.2.2.2.2.2.2.2.2.2.2.2.2.2.2.2.2.1, (hb2.cell (p := ⟨wp.heap.size, 7, none⟩) (show wp.heap.size < p1.heap.size by omega)).trans hS.2.2.2.2.2.2.2.2.2.2.2.2.2.2.2.2.2.2.2.2.2.2.2.2.2.1, (hb2.cell (p := ⟨wp.heap.size, 8, none⟩) (show wp.heap.size < p1.heap.size by omega)).trans hS.2.2.2.2.2.2.2.2.2.2.2.2.2.2.2.2.2.2.2.2.2.2.2.2.2.2⟩
                          go_simp
                          refine hK _ _ hSn (fun hS => ?_)
                          clear hK K hSn
                          try simp only [List.getElem_toArray, List.getElem_cons_zero, List.getElem_cons_succ, Act.put, List.setIfInBounds_toArray, List.set_cons_zero, List.set_cons_succ]
                          refine wpAnyH_ready (rs := [6]) (by kernel_rfl) (by simp) (AllReadyH.cons rfl (fun K hK => ?_) AllReadyH.nil)
                          go_simp
                          have hSn : (p2.alloc (.cells (flatV [setI 1 x, setI 3 y, (⟨3, (o : Int), ((k : Int) % 2 == 0), 4, 1, 3, 0, 0, 0⟩ : Ins), endI 15, endI 4] ++ []).toArray 40)).cell? ⟨g6, 0, none⟩ = some (.int .u8 1) ∧ (p2.alloc (.cells (flatV [setI 1 x, setI 3 y, (⟨3, (o : Int), ((k : Int) % 2 == 0), 4, 1, 3, 0, 0, 0⟩ : Ins), endI 15, endI 4] ++ []).toArray 40)).cell? ⟨g6, 1, none⟩ = some (.int .u8 0) ∧ (p2.alloc (.cells (flatV [setI 1 x, setI 3 y, (⟨3, (o : Int), ((k : Int) % 2 == 0), 4, 1, 3, 0, 0, 0⟩ : Ins), endI 15, endI 4] ++ []).toArray 40)).cell? ⟨g6, 2, none⟩ = some (.bool false) ∧ (p2.alloc (.cells (flatV [setI 1 x, setI 3 y, (⟨3, (o : Int), ((k : Int) % 2 == 0), 4, 1, 3, 0, 0, 0⟩ : Ins), endI 15, endI 4] ++ []).toArray 40)).cell? ⟨g6, 3, none⟩ = some (.int .i64 1) ∧ (p2.alloc (.cells (flatV [setI 1 x, setI 3 y, (⟨3, (o : Int), ((k : Int) % 2 == 0), 4, 1, 3, 0, 0, 0⟩ : Ins), endI 15, endI 4] ++ []).toArray 40)).cell? ⟨g6, 4, none⟩ = some (.int .i64 0) ∧ (p2.alloc (.cells (flatV [setI 1 x, setI 3 y, (⟨3, (o : Int), ((k : Int) % 2 == 0), 4, 1, 3, 0, 0, 0⟩ : Ins), endI 15, endI 4] ++ []).toArray 40)).cell? ⟨g6, 5, none⟩ = some (.int .i64 0) ∧ (p2.alloc (.cells (flatV [setI 1 x, setI 3 y, (⟨3, (o : Int), ((k : Int) % 2 == 0), 4, 1, 3, 0, 0, 0⟩ : Ins), endI 15, endI 4] ++ []).toArray 40)).cell? ⟨g6, 6, none⟩ = some (.int .u64 x) ∧ (p2.alloc (.cells (flatV [setI 1 x, setI 3 y, (⟨3, (o : Int), ((k : Int) % 2 == 0), 4, 1, 3, 0, 0, 0⟩ : Ins), endI 15, endI 4] ++ []).toArray 40)).cell? ⟨g6, 7, none⟩ = some (.int .i64 0) ∧ (p2.alloc (.cells (flatV [setI 1 x, setI 3 y, (⟨3, (o : Int), ((k : Int) % 2 == 0), 4, 1, 3, 0, 0, 0⟩ : Ins), endI 15, endI 4] ++ []).toArray 40)).cell? ⟨g6, 8, none⟩ = some (.int .i64 0) ∧ (p2.alloc (.cells (flatV [setI 1 x, setI 3 y, (⟨3, (o : Int), ((k : Int) % 2 == 0), 4, 1, 3, 0, 0, 0⟩ : Ins), endI 15, endI 4] ++ []).toArray 40)).cell? ⟨g7, 0, none⟩ = some (.int .u8 1) ∧ (p2.alloc (.cells (flatV [setI 1 x, setI 3 y, (⟨3, (o : Int), ((k : Int) % 2 == 0), 4, 1, 3, 0, 0, 0⟩ : Ins), endI 15, endI 4] ++ []).toArray 40)).cell? ⟨g7, 1, none⟩ = some (.int .u8 0) ∧ (p2.alloc (.cells (flatV [setI 1 x, setI 3 y, (⟨3, (o : Int), ((k : Int) % 2 == 0), 4, 1, 3, 0, 0, 0⟩ : Ins), endI 15, endI 4] ++ []).toArray 40)).cell? ⟨g7, 2, none⟩ = some (.bool false) ∧ (p2.alloc (.cells (flatV [setI 1 x, setI 3 y, (⟨3, (o : Int), ((k : Int) % 2 == 0), 4, 1, 3, 0, 0, 0⟩ : Ins), endI 15, endI 4] ++ []).toArray 40)).cell? ⟨g7, 3, none⟩ = some (.int .i64 3) ∧ (p2.alloc (.cells (flatV [setI 1 x, setI 3 y, (⟨3, (o : Int), ((k : Int) % 2 == 0), 4, 1, 3, 0, 0, 0⟩ : Ins), endI 15, endI 4] ++ []).toArray 40)).cell? ⟨g7, 4, none⟩ = some (.int .i64 0) ∧ (p2.alloc (.cells (flatV [setI 1 x, setI 3 y, (⟨3, (o : Int), ((k : Int) % 2 == 0), 4, 1, 3, 0, 0, 0⟩ : Ins), endI 15, endI 4] ++ []).toArray 40)).cell? ⟨g7, 5, none⟩ = some (.int .i64 0) ∧ (p2.alloc (.cells (flatV [setI 1 x, setI 3 y, (⟨3, (o : Int), ((k : Int) % 2 == 0), 4, 1, 3, 0, 0, 0⟩ : Ins), endI 15, endI 4] ++ []).toArray 40)).cell? ⟨g7, 6, none⟩ = some (.int .u64 y) ∧ (p2.alloc (.cells (flatV [setI 1 x, setI 3 y, (⟨3, (o : Int), ((k : Int) % 2 == 0), 4, 1, 3, 0, 0, 0⟩ : Ins), endI 15, endI 4] ++ []).toArray 40)).cell? ⟨g7, 7, none⟩ = some (.int .i64 0) ∧ (p2.alloc (.cells (flatV [setI 1 x, setI 3 y, (⟨3, (o : Int), ((k : Int) % 2 == 0), 4, 1, 3, 0, 0, 0⟩ : Ins), endI 15, endI 4] ++ []).toArray 40)).cell? ⟨g7, 8, none⟩ = some (.int .i64 0) ∧ (p2.alloc (.cells (flatV [setI 1 x, setI 3 y, (⟨3, (o : Int), ((k : Int) % 2 == 0), 4, 1, 3, 0, 0, 0⟩ : Ins), endI 15, endI 4] ++ []).toArray 40)).cell? ⟨wp.heap.size, 0, none⟩ = some (.int .u8 3) ∧ (p2.alloc (.cells (flatV [setI 1 x, setI 3 y, (⟨3, (o : Int), ((k : Int) % 2 == 0), 4, 1, 3, 0, 0, 0⟩ : Ins), endI 15, endI 4] ++ []).toArray 40)).cell? ⟨wp.heap.size, 1, none⟩ = some (.int .u8 (o : Int)) ∧ (p2.alloc (.cells (flatV [setI 1 x, setI 3 y, (⟨3, (o : Int), ((k : Int) % 2 == 0), 4, 1, 3, 0, 0, 0⟩ : Ins), endI 15, endI 4] ++ []).toArray 40)).cell? ⟨wp.heap.size, 2, none⟩ = some (.bool ((k : Int) % 2 == 0)) ∧ (p2.alloc (.cells (flatV [setI 1 x, setI 3 y, (⟨3, (o : Int), ((k : Int) % 2 == 0), 4, 1, 3, 0, 0, 0⟩ : Ins), endI 15, endI 4] ++ []).toArray 40)).cell? ⟨wp.heap.size, 3, none⟩ = some (.int .i64 4) ∧ (p2.alloc (.cells (flatV [setI 1 x, setI 3 y, (⟨3, (o : Int), ((k : Int) % 2 == 0), 4, 1, 3, 0, 0, 0⟩ : Ins), endI 15, endI 4] ++ []).toArray 40)).cell? ⟨wp.heap.size, 4, none⟩ = some (.int .i64 1) ∧ (p2.alloc (.cells (flatV [setI 1 x, setI 3 y, (⟨3, (o : Int), ((k : Int) % 2 == 0), 4, 1, 3, 0, 0, 0⟩ : Ins), endI 15, endI 4] ++ []).toArray 40)).cell? ⟨wp.heap.size, 5, none⟩ = some (.int .i64 3) ∧ (p2.alloc (.cells (flatV [setI 1 x, setI 3 y, (⟨3, (o : Int), ((k : Int) % 2 == 0), 4, 1, 3, 0, 0, 0⟩ : Ins), endI 15, endI 4] ++ []).toArray 40)).cell? ⟨wp.heap.size, 6, none⟩ = some (.int .u64 0) ∧ (p2.alloc (.cells (flatV [setI 1 x, setI 3 y, (⟨3, (o : Int), ((k : Int) % 2 == 0), 4, 1, 3, 0, 0, 0⟩ : Ins), endI 15, endI 4] ++ []).toArray 40)).cell? ⟨wp.heap.size, 7, none⟩ = some (.int .i64 0) ∧ (p2.alloc (.cells (flatV [setI 1 x, setI 3 y, (⟨3, (o : Int), ((k : Int) % 2 == 0), 4, 1, 3, 0, 0, 0⟩ : Ins), endI 15, endI 4] ++ []).toArray 40)).cell? ⟨wp.heap.size, 8, none⟩ = some (.int .i64 0) := ⟨(World.cell?_alloc_past _ _ _ (show g6 < p2.heap.size by omega)).trans hS.1, (World.cell?_alloc_past _ _ _ (show g6 < p2.heap.size by omega)).trans hS.2.1, (World.cell?_alloc_past _ _ _ (show g6 < p2.heap.size by omega)).trans hS.2.2.1, (World.cell?_alloc_past _ _ _ (show g6 < p2.heap.size by omega)).trans hS.2.2.2.1, (World.cell?_alloc_past _ _ _ (show g6 < p2.heap.size by omega)).trans hS.2.2.2.2.1, (World.cell?_alloc_past _ _ _ (show g6 < p2.heap.size by omega)).trans hS.2.2.2.2.2.1, (World.cell?_alloc_past _ _ _ (show g6 < p2.heap.size by omega)).trans hS.2.2.2.2.2.2.1, (World.cell?_alloc_past _ _ _ (show g6 < p2.heap.size by omega)).trans hS.2.2.2.2.2.2.2.1, (World.cell?_alloc_past _ _ _ (show g6 < p2.heap.size by omega)).trans hS.2.2.2.2.2.2.2.2.1, (World.cell?_alloc_past _ _ _ (show g7 < p2.heap.size by omega)).trans hS.2.2.2.2.2.2.2.2.2.1, (World.cell?_alloc_past _ _ _ (show g7 < p2.heap.size by omega)).trans hS.2.2.2.2.2.2.2.2.2.2.1, (World.cell?_alloc_past _ _ _ (show g7 < p2.heap.size by omega)).trans hS.2.2.2.2.2.2.2.2.2.2.2.1, (World.cell?_alloc_past _ _ _ (show g7 < p2.heap.size by omega)).trans hS.2.2.2.2.2.2.2.2.2.2.2.2.1, (World.cell?_alloc_past _ _ _ (show g7 < p2.heap.size by omega)).trans hS.2.2.2.2.2.2.2.2.2.2.2.2.2.1, (World.cell?_alloc_past _ _ _ (show g7 < p2.heap.size by omega)).trans hS.2.2.2.2.2.2.2.2.2.2.2.2.2.2.1, (World.cell?_alloc_past _ _ _ (show g7 < p2.heap.size by omega)).trans hS.2.2.2.2.2.2.2.2.2.2.2.2.2.2.2.1, (World.cell?_alloc_past _ _ _ (show g7 < p2.heap.size by omega)).trans hS.2.2.2.2.2.2.2.2.2.2.2.2.2.2.2.2.1, (World.cell?_alloc_past _ _ _ (show g7 < p2.heap.size by omega)).trans hS.2.2.2.2.2.2.2.2.2.2.2.2.2.2.2.2.2.1, (World.cell?_alloc_past _ _ _ (show wp.heap.size < p2.heap.size by omega)).trans hS.2.2.2.2.2.2.2.2.2.2.2.2.2.2.2.2.2.2.1, (World.cell?_alloc_past _ _ _ (show wp.heap.size < p2.heap.size by omega)).trans hS.2.2.2.2.2.2.2.2.2.2.2.2.2.2.2.2.2.2.2.1, (World.cell?_alloc_past _ _ _ (show wp.heap.size < p2.heap.size by omega)).trans hS.2.2.2.2.2.2.2.2.2.2.2.2.2.2.2.2.2.2.2.2.1, (World.cell?_alloc_past _ _ _ (show wp.heap.size < p2.heap.size by omega)).trans hS.2.2.2.2.2.2.2.2.2.2.2.2.2.2.2.2.2.2.2.2.2.1, (World.cell?_alloc_past _ _ _ (show wp.heap.size < p2.heap.size by omega)).trans hS.2.2.2.2.2.2.2.2.2.2.2.2.2.2.2.2.2.2.2.2.2.2.1, (World.cell?_alloc_past _ _ _ (show wp.heap.size < p2.heap.size by omega)).trans hS.2.2.2.2.2.2.2.2.2.2.2.2.2.2.2.2.2.2.2.2.2.2.2.1, (World.cell?_alloc_past _ _ _ (show wp.heap.size < p2.heap.size by omega)).trans hS.2.2.2.2.2.2.2.2.2.2.2.2.2.2.2.2.2.2.2.2.2.2.2.2.1, (World.cell?_alloc_past _ _ _ (show wp.heap.size < p2.heap.size by omega)).trans hS.2.2.2.2.2.2.2.2.2.2.2.2.2.2.2.2.2.2.2.2.2.2.2.2.2.1, (World.cell?_alloc_past _ _ _ (show wp.heap.size < p2.heap.size by omega)).trans hS.2.2.2.2.2.2.2.2.2.2.2.2.2.2.2.2.2.2.2.2.2.2.2.2.2.2⟩
                          refine hK _ _ hSn (fun hS => ?_)
                          clear hK K hSn
                          try simp only [List.getElem_toArray, List.getElem_cons_zero, List.getElem_cons_succ, Act.put, List.setIfInBounds_toArray, List.set_cons_zero, List.set_cons_succ]
                          refine wpAnyH_ready (rs := [7]) (by kernel_rfl) (by simp) (AllReadyH.cons rfl (fun K hK => ?_) AllReadyH.nil)
                          have hw12 : Below wq.heap.size wq p2 := (Below.refl _ _).drew.trans (hb1.trans (hb2.mono hq1))
                          go_simp
                          refine (doesF_any (some ⟨p2.heap.size, 0, none⟩) 5 [setI 1 x, setI 3 y, (⟨3, (o : Int), ((k : Int) % 2 == 0), 4, 1, 3, 0, 0, 0⟩ : Ins), endI 15, endI 4] (some ⟨w.heap.size, 0, none⟩) 9 pkN _ (inss_bk (ext := []) (Bk.new p2 40 (flatV [setI 1 x, setI 3 y, (⟨3, (o : Int), ((k : Int) % 2 == 0), 4, 1, 3, 0, 0, 0⟩ : Ins), endI 15, endI 4] ++ [])) (by simp) (by decide)) HOKF.out (bk_rd ((HPQ.out.below hw12 HPQ.out.lt).alloc _) 9) (by decide) (by decide)).mono ?_
                          rintro _ p3 ⟨rfl, hb3⟩
                          have hSn : p3.cell? ⟨g6, 0, none⟩ = some (.int .u8 1) ∧ p3.cell? ⟨g6, 1, none⟩ = some (.int .u8 0) ∧ p3.cell? ⟨g6, 2, none⟩ = some (.bool false) ∧ p3.cell? ⟨g6, 3, none⟩ = some (.int .i64 1) ∧ p3.cell? ⟨g6, 4, none⟩ = some (.int .i64 0) ∧ p3.cell? ⟨g6, 5, none⟩ = some (.int .i64 0) ∧ p3.cell? ⟨g6, 6, none⟩ = some (.int .u64 x) ∧ p3.cell? ⟨g6, 7, none⟩ = some (.int .i64 0) ∧ p3.cell? ⟨g6, 8, none⟩ = some (.int .i64 0) ∧ p3.cell? ⟨g7, 0, none⟩ = some (.int .u8 1) ∧ p3.cell? ⟨g7, 1, none⟩ = some (.int .u8 0) ∧ p3.cell? ⟨g7, 2, none⟩ = some (.bool false) ∧ p3.cell? ⟨g7, 3, none⟩ = some (.int .i64 3) ∧ p3.cell? ⟨g7, 4, none⟩ = some (.int .i64 0) ∧ p3.cell? ⟨g7, 5, none⟩ = some (.int .i64 0) ∧ p3.cell? ⟨g7, 6, none⟩ = some (.int .u64 y) ∧ p3.cell? ⟨g7, 7, none⟩ = some (.int .i64 0) ∧ p3.cell? ⟨g7, 8, none⟩ = some (.int .i64 0) ∧ p3.cell? ⟨wp.heap.size, 0, none⟩ = some (.int .u8 3) ∧ p3.cell? ⟨wp.heap.size, 1, none⟩ = some (.int .u8 (o : Int)) ∧ p3.cell? ⟨wp.heap.size, 2, none⟩ = some (.bool ((k : Int) % 2 == 0)) ∧ p3.cell? ⟨wp.heap.size, 3, none⟩ = some (.int .i64 4) ∧ p3.cell? ⟨wp.heap.size, 4, none⟩ = some (.int .i64 1) ∧ p3.cell? ⟨wp.heap.size, 5, none⟩ = some (.int .i64 3) ∧ p3.cell? ⟨wp.heap.size, 6, none⟩ = some (.int .u64 0) ∧ p3.cell? ⟨wp.heap.size, 7, none⟩ = some (.int .i64 0) ∧ p3.cell? ⟨wp.heap.size, 8, none⟩ = some (.int .i64 0) := ⟨(hb3.cell (p := ⟨g6, 0, none⟩) (by simp; omega)).trans hS.1, (hb3.cell (p := ⟨g6, 1, none⟩) (by simp; omega)).trans hS.2.1, (hb3.cell (p := ⟨g6, 2, none⟩) (by simp; omega)).trans hS.2.2.1, (hb3.cell (p := ⟨g6, 3, none⟩) (by simp; omega)).trans hS.2.2.2.1, (hb3.cell (p := ⟨g6, 4, none⟩) (by simp; omega)).trans hS.2.2.2.2.1, (hb3.cell (p := ⟨g6, 5, none⟩) (by simp; omega)).trans hS.2.2.2.2.2.1, (hb3.cell (p := ⟨g6, 6, none⟩) (by simp; omega)).trans hS.2.2.2.2.2.2.1, (hb3.cell (p := ⟨g6, 7, none⟩) (by simp; omega)).trans hS.2.2.2.2.2.2.2.1, (hb3.cell (p := ⟨g6, 8, none⟩) (by simp; omega)).trans hS.2.2.2.2.2.2.2.2.1, (hb3.cell (p := ⟨g7, 0, none⟩) (by simp; omega)).trans hS.2.2.2.2.2.2.2.2.2.1, (hb3.cell (p := ⟨g7, 1, none⟩) (by simp; omega)).trans hS.2.2.2.2.2.2.2.2.2.2.1, (hb3.cell (p := ⟨g7, 2, none⟩) (by simp; omega)).trans hS.2.2.2.2.2.2.2.2.2.2.2.1, (hb3.cell (p := ⟨g7, 3, none⟩) (by simp; omega)).trans hS.2.2.2.2.2.2.2.2.2.2.2.2.1, (hb3.cell (p := ⟨g7, 4, none⟩) (by simp; omega)).trans hS.2.2.2.2.2.2.2.2.2.2.2.2.2.1, (hb3.cell (p := ⟨g7, 5, none⟩) (by simp; omega)).trans hS.2.2.2.2.2.2.2.2.2.2.2.2.2.2.1, (hb3.cell (p := ⟨g7, 6, none⟩) (by simp; omega)).trans hS.2.2.2.2.2.2.2.2.2.2.2.2.2.2.2.1, (hb3.cell (p := ⟨g7, 7, none⟩) (by simp; omega)).trans hS.2.2.2.2.2.2.2.2.2.2.2.2.2.2.2.2.1, (hb3.cell (p := ⟨g7, 8, none⟩) (by simp; omega)).trans hS.2.2.2.2.2.2.2.2.2.2.2.2.2.2.2.2.2.1, (hb3.cell (p := ⟨wp.heap.size, 0, none⟩) (by simp; omega)).trans hS.2.2.2.2.2.2.2.2.2.2.2.2.2.2.2.2.2.2.1, (hb3.cell (p := ⟨wp.heap.size, 1, none⟩) (by simp; omega)).trans hS.2.2.2.2.2.2.2.2.2.2.2.2.2.2.2.2.2.2.2.1, (hb3.cell (p := ⟨wp.heap.size, 2, none⟩) (by simp; omega)).trans hS.2.2.2.2.2.2.2.2.2.2.2.2.2.2.2.2.2.2.2.2.1, (hb3.cell (p := ⟨wp.heap.size, 3, none⟩) (by simp; omega)).trans hS.2.2.2.2.2.2.2.2.2.2.2.2.2.2.2.2.2.2.2.2.2.1, (hb3.cell (p := ⟨wp.heap.size, 4, none⟩) (by simp; omega)).trans hS.2.2.2.2.2.2.2.2.2.2.2.2.2.2.2.2.2.2.2.2.2.2.1, (hb3.cell (p := ⟨wp.heap.size, 5, none⟩) (by simp; omega)).trans hS.2.2.2.2.2.2.2.2.2.2.2.2.2.2.2.2.2.2.2.2.2.2.2.1, (hb3.cell (p := ⟨wp.heap.size, 6, none⟩) (by simp; omega)).trans hS.2.2.2.2.2.2.2.2.2.2.2.2.2.2.2.2.2.2.2.2.2.2.2.2.1, (hb3.cell (p := ⟨wp.heap.size, 7, none⟩) (by simp; omega)).trans hS.2.2.2.2.2.2.2.2.2.2.2.2.2.2.2.2.2.2.2.2.2.2.2.2.2.1, (hb3.cell (p := ⟨wp.heap.size, 8, none⟩) (by simp; omega)).trans hS.2.2.2.2.2.2.2.2.2.2.2.2.2.2.2.2.2.2.2.2.2.2.2.2.2.2⟩
                          have HE28 : Hid (Below wq.heap.size wq p3) := Lib.hid (hw12.trans (((Below.refl _ _).alloc (Nat.le_refl _) _).trans (hb3.mono (by simp)) |>.mono (by omega)))
                          go_simp
                          refine hK _ _ hSn (fun hS => ?_)
                          clear hK K hSn
                          try simp only [List.getElem_toArray, List.getElem_cons_zero, List.getElem_cons_succ, Act.put, List.setIfInBounds_toArray, List.set_cons_zero, List.set_cons_succ]
                          refine wpAnyH_take (i := 8) (v := ?_) rfl (by kernel_rfl) (by kernel_rfl) (by kernel_rfl) (fun _ _ _ h => h) (Or.inl ⟨by rfl, ?_⟩) hS ?_
                          rotate_left 1
                          · intro w' hSw
                            go_simp <;> with_reducible rfl
                          try simp only [List.getElem_toArray, List.getElem_cons_zero, List.getElem_cons_succ, Act.put, List.setIfInBounds_toArray, List.set_cons_zero, List.set_cons_succ]
                          refine wpAnyH_done (by kernel_rfl) ?_ _
                          go_wp2_with fail
                          go_meet
                          exact ⟨rfl, HE28.out⟩
                        case rest =>
                          obtain ⟨rfl, hb5⟩ := hcut
                          go_wp2_with fail
                          go_roundw
                          case rel => exact ⟨o + 1, by omega, by omega, by go_num, HKO.out.trans ((HQB.out.trans (hb5.mono hqs)).mono HKO.out.size)⟩
                          case measure => simp [intOf]; omega
                  · have d4 : decide ((o : Int) ≤ 27) = false := decide_eq_false (by omega)
                    go_wp2_with fail
                    go_roundw
                    case rel => exact ⟨k + 1, by omega, by go_num, HC1.out.trans (HKO.out.mono HC1.out.size)⟩
                    case measure => simp [intOf]; omega
        · have d2 : decide ((k : Int) < 30) = false := decide_eq_false (by omega)
          go_wp2_with fail
          go_roundw
          case rel => exact ⟨i + 1, by omega, by go_num, hbr⟩
          case measure => simp [intOf]; omega
    · have d1 : decide ((i : Int) < 30) = false := decide_eq_false (by omega)
      obtain ⟨i0, hi0, hz0, hz1, hz2⟩ := info_parts u8_info
      go_wp2_with (at_make; refine wpList_make_full _ rfl _ _ 23 rfl wo.heap.size 5 i0 (.int .u8 0) 1 Try.underlying23 hi0 hz0 hz1 _ _ _ _ 65536 rfl rfl rfl rfl (by rw [hz2]; decide) (by decide) (Nat.le_refl _) ?_; intro wz hownz hgz)
      obtain ⟨pk1, hl1, hp1, hr1⟩ := zeros_rd hownz 1 65535 (by decide)
      obtain ⟨pk0, hl0, hp0, hr0⟩ := zeros_rd hownz 0 65536 (by decide)
      have hzb : Below wo.heap.size wo wz := ⟨hgz.os, hgz.tape, hgz.output, hgz.size, fun k hk => hgz.block k hk (by simp)⟩
      have HD1 := Lib.hid (fun A c xs W h1 h2 h3 => doesN (o := 1) (g := wo.heap.size) hl1 hp1 (by decide) A c xs W h1 h2 h3)
      have HD0 := Lib.hid (fun A c xs W h1 h2 h3 => doesN (o := 0) (g := wo.heap.size) hl0 hp0 (by decide) A c xs W h1 h2 h3)
      have HDN := Lib.hid (fun (A : Option Addr) (c : Nat) (xs : List Ins) (W : World) h1 h2 (h3 : Rd W W.heap.size none 0 (u8s [])) => doesF_any A c xs none 0 [] W h1 h2 h3 (fun x hx => by cases hx) (by decide))
      have HDP := Lib.hid (fun (A : Option Addr) (c : Nat) (xs : List Ins) (W : World) h1 h2 (h3 : Rd W W.heap.size (some ⟨w.heap.size, 0, none⟩) 9 (u8s pkN)) => doesF_any A c xs (some ⟨w.heap.size, 0, none⟩) 9 pkN W h1 h2 h3 (by decide) (by decide))
      have HR1 := Lib.hid hr1
      have HR0 := Lib.hid hr0
      have HRP := Lib.hid (bk_rd (((HN.out.below HBO.out).below hzb)).p 9)
      have hea := fun a W => end_any a W
      have hla := fun n W => load_any n W
      simp only [insA, insV, endI, loadI] at hea hla
      have HEA := Lib.hid hea
      have HLA := Lib.hid hla
      have HZB := Lib.hid hzb
      clear hea hla hr1 hr0 hzb hownz hgz hl1 hl0 hp1 hp0 hi0 hz0 hz1 hz2 d1
      go_wp2_with fail
      refine wp_region_held_drew (S := fun w' => Below wz.heap.size wz w') (by kernel_rfl) (Below.refl _ _).drew (fun hS => ?_)
      refine wpAnyH_take (i := 0) (v := ?_) rfl (by kernel_rfl) (by kernel_rfl) (by kernel_rfl) (fun _ _ _ h => h) (Or.inl ⟨by rfl, ?_⟩) hS ?_
      rotate_left 1
      · intro w' hSw
        go_simp <;> with_reducible rfl
      try simp only [List.getElem_toArray, List.getElem_cons_zero, List.getElem_cons_succ, Act.put, List.setIfInBounds_toArray, List.set_cons_zero, List.set_cons_succ]
      refine wpAnyH_take (i := 1) (v := ?_) rfl (by kernel_rfl) (by kernel_rfl) (by kernel_rfl) (fun _ _ _ h => h) (Or.inl ⟨by rfl, ?_⟩) hS ?_
      rotate_left 1
      · intro w' hSw
        go_simp <;> with_reducible rfl
      try simp only [List.getElem_toArray, List.getElem_cons_zero, List.getElem_cons_succ, Act.put, List.setIfInBounds_toArray, List.set_cons_zero, List.set_cons_succ]
      refine wpAnyH_ready (rs := [2]) (by kernel_rfl) (by simp) (AllReadyH.cons rfl (fun K hK => ?_) AllReadyH.nil)
      go_simp
      refine (HEA.out 2 _).mono ?_
      rintro _ p1 ⟨rfl, hb_p1⟩
      have hSn : Below wz.heap.size wz p1 := hS.trans (hb_p1.mono hS.size)
      go_simp
      refine hK _ _ hSn (fun hS => ?_)
      clear hK K hSn
      try simp only [List.getElem_toArray, List.getElem_cons_zero, List.getElem_cons_succ, Act.put, List.setIfInBounds_toArray, List.set_cons_zero, List.set_cons_succ]
      refine wpAnyH_ready (rs := [3]) (by kernel_rfl) (by simp) (AllReadyH.cons rfl (fun K hK => ?_) AllReadyH.nil)
      go_simp
      have hSn : Below wz.heap.size wz (p1.alloc (.cells (flatV [endI 2] ++ []).toArray 40)) := hS.alloc hS.size _
      refine hK _ _ hSn (fun hS => ?_)
      clear hK K hSn
      try simp only [List.getElem_toArray, List.getElem_cons_zero, List.getElem_cons_succ, Act.put, List.setIfInBounds_toArray, List.set_cons_zero, List.set_cons_succ]
      refine wpAnyH_ready (rs := [4]) (by kernel_rfl) (by simp) (AllReadyH.cons rfl (fun K hK => ?_) AllReadyH.nil)
      go_simp
      refine (HD1.out (some ⟨p1.heap.size, 0, none⟩) 1 [endI 2] _ (inss_bk (ext := []) (Bk.new p1 40 (flatV [endI 2] ++ [])) (by simp) (by decide)) okE2 ((Rd.below HR1.out hS).mono hS.size)).mono ?_
      rintro _ p2 ⟨rfl, hb_p2⟩
      have hSn : Below wz.heap.size wz p2 := hS.trans (hb_p2.mono hS.size)
      go_simp
      refine hK _ _ hSn (fun hS => ?_)
      clear hK K hSn
      try simp only [List.getElem_toArray, List.getElem_cons_zero, List.getElem_cons_succ, Act.put, List.setIfInBounds_toArray, List.set_cons_zero, List.set_cons_succ]
      refine wpAnyH_take (i := 5) (v := ?_) rfl (by kernel_rfl) (by kernel_rfl) (by kernel_rfl) (fun _ _ _ h => h) (Or.inl ⟨by rfl, ?_⟩) hS ?_
      rotate_left 1
      · intro w' hSw
        go_simp <;> with_reducible rfl
      try simp only [List.getElem_toArray, List.getElem_cons_zero, List.getElem_cons_succ, Act.put, List.setIfInBounds_toArray, List.set_cons_zero, List.set_cons_succ]
      refine wpAnyH_take (i := 6) (v := ?_) rfl (by kernel_rfl) (by kernel_rfl) (by kernel_rfl) (fun _ _ _ h => h) (Or.inl ⟨by go_simp, ?_⟩) hS ?_
      rotate_left 1
      · intro w' hSw
        go_simp <;> with_reducible rfl
      try simp only [List.getElem_toArray, List.getElem_cons_zero, List.getElem_cons_succ, Act.put, List.setIfInBounds_toArray, List.set_cons_zero, List.set_cons_succ]
      refine wpAnyH_ready (rs := [7]) (by kernel_rfl) (by simp) (AllReadyH.cons rfl (fun K hK => ?_) AllReadyH.nil)
      go_simp
      refine (HEA.out 2 _).mono ?_
      rintro _ p3 ⟨rfl, hb_p3⟩
      have hSn : Below wz.heap.size wz p3 := hS.trans (hb_p3.mono hS.size)
      go_simp
      refine hK _ _ hSn (fun hS => ?_)
      clear hK K hSn
      try simp only [List.getElem_toArray, List.getElem_cons_zero, List.getElem_cons_succ, Act.put, List.setIfInBounds_toArray, List.set_cons_zero, List.set_cons_succ]
      refine wpAnyH_ready (rs := [8]) (by kernel_rfl) (by simp) (AllReadyH.cons rfl (fun K hK => ?_) AllReadyH.nil)
      go_simp
      have hSn : Below wz.heap.size wz (p3.alloc (.cells (flatV [endI 2] ++ []).toArray 40)) := hS.alloc hS.size _
      refine hK _ _ hSn (fun hS => ?_)
      clear hK K hSn
      try simp only [List.getElem_toArray, List.getElem_cons_zero, List.getElem_cons_succ, Act.put, List.setIfInBounds_toArray, List.set_cons_zero, List.set_cons_succ]
      refine wpAnyH_ready (rs := [9]) (by kernel_rfl) (by simp) (AllReadyH.cons rfl (fun K hK => ?_) AllReadyH.nil)
      go_simp
      refine (HD0.out (some ⟨p3.heap.size, 0, none⟩) 1 [endI 2] _ (inss_bk (ext := []) (Bk.new p3 40 (flatV [endI 2] ++ [])) (by simp) (by decide)) okE2 ((Rd.below HR0.out hS).mono hS.size)).mono ?_
      rintro _ p4 ⟨rfl, hb_p4⟩
      have hSn : Below wz.heap.size wz p4 := hS.trans (hb_p4.mono hS.size)
      go_simp
      refine hK _ _ hSn (fun hS => ?_)
      clear hK K hSn
      try simp only [List.getElem_toArray, List.getElem_cons_zero, List.getElem_cons_succ, Act.put, List.setIfInBounds_toArray, List.set_cons_zero, List.set_cons_succ]
      refine wpAnyH_take (i := 10) (v := ?_) rfl (by kernel_rfl) (by kernel_rfl) (by kernel_rfl) (fun _ _ _ h => h) (Or.inl ⟨by rfl, ?_⟩) hS ?_
      rotate_left 1
      · intro w' hSw
        go_simp <;> with_reducible rfl
      try simp only [List.getElem_toArray, List.getElem_cons_zero, List.getElem_cons_succ, Act.put, List.setIfInBounds_toArray, List.set_cons_zero, List.set_cons_succ]
      refine wpAnyH_take (i := 11) (v := ?_) rfl (by kernel_rfl) (by kernel_rfl) (by kernel_rfl) (fun _ _ _ h => h) (Or.inl ⟨by rfl, ?_⟩) hS ?_
      rotate_left 1
      · intro w' hSw
        go_simp <;> with_reducible rfl
      try simp only [List.getElem_toArray, List.getElem_cons_zero, List.getElem_cons_succ, Act.put, List.setIfInBounds_toArray, List.set_cons_zero, List.set_cons_succ]
      refine wpAnyH_take (i := 12) (v := ?_) rfl (by kernel_rfl) (by kernel_rfl) (by kernel_rfl) (fun _ _ _ h => h) (Or.inl ⟨by go_simp, ?_⟩) hS ?_
      rotate_left 1
      · intro w' hSw
        go_simp <;> with_reducible rfl
      try simp only [List.getElem_toArray, List.getElem_cons_zero, List.getElem_cons_succ, Act.put, List.setIfInBounds_toArray, List.set_cons_zero, List.set_cons_succ]
      refine wpAnyH_ready (rs := [13]) (by kernel_rfl) (by simp) (AllReadyH.cons rfl (fun K hK => ?_) AllReadyH.nil)
      go_simp
      refine (HEA.out 16 _).mono ?_
      rintro _ p5 ⟨rfl, hb_p5⟩
      have hSn : Below wz.heap.size wz p5 := hS.trans (hb_p5.mono hS.size)
      go_simp
      refine hK _ _ hSn (fun hS => ?_)
      clear hK K hSn
      try simp only [List.getElem_toArray, List.getElem_cons_zero, List.getElem_cons_succ, Act.put, List.setIfInBounds_toArray, List.set_cons_zero, List.set_cons_succ]
      refine wpAnyH_ready (rs := [14]) (by kernel_rfl) (by simp) (AllReadyH.cons rfl (fun K hK => ?_) AllReadyH.nil)
      go_simp
      have hSn : Below wz.heap.size wz (p5.alloc (.cells (flatV [endI 16] ++ []).toArray 40)) := hS.alloc hS.size _
      refine hK _ _ hSn (fun hS => ?_)
      clear hK K hSn
      try simp only [List.getElem_toArray, List.getElem_cons_zero, List.getElem_cons_succ, Act.put, List.setIfInBounds_toArray, List.set_cons_zero, List.set_cons_succ]
      refine wpAnyH_ready (rs := [15]) (by kernel_rfl) (by simp) (AllReadyH.cons rfl (fun K hK => ?_) AllReadyH.nil)
      go_simp
      refine (HD0.out (some ⟨p5.heap.size, 0, none⟩) 1 [endI 16] _ (inss_bk (ext := []) (Bk.new p5 40 (flatV [endI 16] ++ [])) (by simp) (by decide)) okE16 ((Rd.below HR0.out hS).mono hS.size)).mono ?_
      rintro _ p6 ⟨rfl, hb_p6⟩
      have hSn : Below wz.heap.size wz p6 := hS.trans (hb_p6.mono hS.size)
      go_simp
      refine hK _ _ hSn (fun hS => ?_)
      clear hK K hSn
      try simp only [List.getElem_toArray, List.getElem_cons_zero, List.getElem_cons_succ, Act.put, List.setIfInBounds_toArray, List.set_cons_zero, List.set_cons_succ]
      refine wpAnyH_take (i := 16) (v := ?_) rfl (by kernel_rfl) (by kernel_rfl) (by kernel_rfl) (fun _ _ _ h => h) (Or.inl ⟨by rfl, ?_⟩) hS ?_
      rotate_left 1
      · intro w' hSw
        go_simp <;> with_reducible rfl
      try simp only [List.getElem_toArray, List.getElem_cons_zero, List.getElem_cons_succ, Act.put, List.setIfInBounds_toArray, List.set_cons_zero, List.set_cons_succ]
      refine wpAnyH_take (i := 17) (v := ?_) rfl (by kernel_rfl) (by kernel_rfl) (by kernel_rfl) (fun _ _ _ h => h) (Or.inl ⟨by rfl, ?_⟩) hS ?_
      rotate_left 1
      · intro w' hSw
        go_simp <;> with_reducible rfl
      try simp only [List.getElem_toArray, List.getElem_cons_zero, List.getElem_cons_succ, Act.put, List.setIfInBounds_toArray, List.set_cons_zero, List.set_cons_succ]
      refine wpAnyH_ready (rs := [18]) (by kernel_rfl) (by simp) (AllReadyH.cons rfl (fun K hK => ?_) AllReadyH.nil)
      go_simp
      refine (HLA.out 0 _).mono ?_
      rintro _ p7 ⟨rfl, hb_p7⟩
      have hSn : Below wz.heap.size wz p7 := hS.trans (hb_p7.mono hS.size)
      go_simp
      refine hK _ _ hSn (fun hS => ?_)
      clear hK K hSn
      try simp only [List.getElem_toArray, List.getElem_cons_zero, List.getElem_cons_succ, Act.put, List.setIfInBounds_toArray, List.set_cons_zero, List.set_cons_succ]
      refine wpAnyH_ready (rs := [19]) (by kernel_rfl) (by simp) (AllReadyH.cons rfl (fun K hK => ?_) AllReadyH.nil)
      go_simp
      refine (HEA.out 0 _).mono ?_
      rintro _ p8 ⟨rfl, hb_p8⟩
      have hSn : Below wz.heap.size wz p8 := hS.trans (hb_p8.mono hS.size)
      go_simp
      refine hK _ _ hSn (fun hS => ?_)
      clear hK K hSn
      try simp only [List.getElem_toArray, List.getElem_cons_zero, List.getElem_cons_succ, Act.put, List.setIfInBounds_toArray, List.set_cons_zero, List.set_cons_succ]
      refine wpAnyH_ready (rs := [20]) (by kernel_rfl) (by simp) (AllReadyH.cons rfl (fun K hK => ?_) AllReadyH.nil)
      go_simp
      have hSn : Below wz.heap.size wz (p8.alloc (.cells (flatV [loadI 0, endI 0] ++ []).toArray 40)) := hS.alloc hS.size _
      refine hK _ _ hSn (fun hS => ?_)
      clear hK K hSn
      try simp only [List.getElem_toArray, List.getElem_cons_zero, List.getElem_cons_succ, Act.put, List.setIfInBounds_toArray, List.set_cons_zero, List.set_cons_succ]
      refine wpAnyH_ready (rs := [21]) (by kernel_rfl) (by simp) (AllReadyH.cons rfl (fun K hK => ?_) AllReadyH.nil)
      go_simp
      refine (HDN.out (some ⟨p8.heap.size, 0, none⟩) 2 [loadI 0, endI 0] _ (inss_bk (ext := []) (Bk.new p8 40 (flatV [loadI 0, endI 0] ++ [])) (by simp) (by decide)) okL0 (Rd.none_ _ _ _ _ (fun _ => rfl))).mono ?_
      rintro _ p9 ⟨rfl, hb_p9⟩
      have hSn : Below wz.heap.size wz p9 := hS.trans (hb_p9.mono hS.size)
      go_simp
      refine hK _ _ hSn (fun hS => ?_)
      clear hK K hSn
      try simp only [List.getElem_toArray, List.getElem_cons_zero, List.getElem_cons_succ, Act.put, List.setIfInBounds_toArray, List.set_cons_zero, List.set_cons_succ]
      refine wpAnyH_take (i := 22) (v := ?_) rfl (by kernel_rfl) (by kernel_rfl) (by kernel_rfl) (fun _ _ _ h => h) (Or.inl ⟨by rfl, ?_⟩) hS ?_
      rotate_left 1
      · intro w' hSw
        go_simp <;> with_reducible rfl
      try simp only [List.getElem_toArray, List.getElem_cons_zero, List.getElem_cons_succ, Act.put, List.setIfInBounds_toArray, List.set_cons_zero, List.set_cons_succ]
      refine wpAnyH_take (i := 23) (v := ?_) rfl (by kernel_rfl) (by kernel_rfl) (by kernel_rfl) (fun _ _ _ h => h) (Or.inl ⟨by rfl, ?_⟩) hS ?_
      rotate_left 1
      · intro w' hSw
        go_simp <;> with_reducible rfl
      try simp only [List.getElem_toArray, List.getElem_cons_zero, List.getElem_cons_succ, Act.put, List.setIfInBounds_toArray, List.set_cons_zero, List.set_cons_succ]
      refine wpAnyH_take (i := 24) (v := ?_) rfl (by kernel_rfl) (by kernel_rfl) (by kernel_rfl) (fun _ _ _ h => h) (Or.inl ⟨by go_simp, ?_⟩) hS ?_
      rotate_left 1
      · intro w' hSw
        go_simp <;> with_reducible rfl
      try simp only [List.getElem_toArray, List.getElem_cons_zero, List.getElem_cons_succ, Act.put, List.setIfInBounds_toArray, List.set_cons_zero, List.set_cons_succ]
      refine wpAnyH_take (i := 25) (v := ?_) rfl (by kernel_rfl) (by kernel_rfl) (by kernel_rfl) (fun _ _ _ h => h) (Or.inl ⟨by go_simp, ?_⟩) hS ?_
      rotate_left 1
      · intro w' hSw
        go_simp <;> with_reducible rfl
      try simp only [List.getElem_toArray, List.getElem_cons_zero, List.getElem_cons_succ, Act.put, List.setIfInBounds_toArray, List.set_cons_zero, List.set_cons_succ]
      refine wpAnyH_ready (rs := [26]) (by kernel_rfl) (by simp) (AllReadyH.cons rfl (fun K hK => ?_) AllReadyH.nil)
      go_simp
      refine (HEA.out 1 _).mono ?_
      rintro _ p10 ⟨rfl, hb_p10⟩
      have hSn : Below wz.heap.size wz p10 := hS.trans (hb_p10.mono hS.size)
      go_simp
      refine hK _ _ hSn (fun hS => ?_)
      clear hK K hSn
      try simp only [List.getElem_toArray, List.getElem_cons_zero, List.getElem_cons_succ, Act.put, List.setIfInBounds_toArray, List.set_cons_zero, List.set_cons_succ]
      refine wpAnyH_ready (rs := [27]) (by kernel_rfl) (by simp) (AllReadyH.cons rfl (fun K hK => ?_) AllReadyH.nil)
      go_simp
      refine (HEA.out 2 _).mono ?_
      rintro _ p11 ⟨rfl, hb_p11⟩
      have hSn : Below wz.heap.size wz p11 := hS.trans (hb_p11.mono hS.size)
      go_simp
      refine hK _ _ hSn (fun hS => ?_)
      clear hK K hSn
      try simp only [List.getElem_toArray, List.getElem_cons_zero, List.getElem_cons_succ, Act.put, List.setIfInBounds_toArray, List.set_cons_zero, List.set_cons_succ]
      refine wpAnyH_ready (rs := [28]) (by kernel_rfl) (by simp) (AllReadyH.cons rfl (fun K hK => ?_) AllReadyH.nil)
      go_simp
      have hSn : Below wz.heap.size wz (p11.alloc (.cells (flatV [gotoI 2, endI 1, endI 2] ++ []).toArray 40)) := hS.alloc hS.size _
      refine hK _ _ hSn (fun hS => ?_)
      clear hK K hSn
      try simp only [List.getElem_toArray, List.getElem_cons_zero, List.getElem_cons_succ, Act.put, List.setIfInBounds_toArray, List.set_cons_zero, List.set_cons_succ]
      refine wpAnyH_ready (rs := [29]) (by kernel_rfl) (by simp) (AllReadyH.cons rfl (fun K hK => ?_) AllReadyH.nil)
      go_simp
      refine (HDP.out (some ⟨p11.heap.size, 0, none⟩) 3 [gotoI 2, endI 1, endI 2] _ (inss_bk (ext := []) (Bk.new p11 40 (flatV [gotoI 2, endI 1, endI 2] ++ [])) (by simp) (by decide)) okG ((Rd.below HRP.out hS).mono hS.size)).mono ?_
      rintro _ p12 ⟨rfl, hb_p12⟩
      have hSn : Below wz.heap.size wz p12 := hS.trans (hb_p12.mono hS.size)
      go_simp
      refine hK _ _ hSn (fun hS => ?_)
      clear hK K hSn
      try simp only [List.getElem_toArray, List.getElem_cons_zero, List.getElem_cons_succ, Act.put, List.setIfInBounds_toArray, List.set_cons_zero, List.set_cons_succ]
      refine wpAnyH_take (i := 30) (v := ?_) rfl (by kernel_rfl) (by kernel_rfl) (by kernel_rfl) (fun _ _ _ h => h) (Or.inl ⟨by rfl, ?_⟩) hS ?_
      rotate_left 1
      · intro w' hSw
        go_simp <;> with_reducible rfl
      try simp only [List.getElem_toArray, List.getElem_cons_zero, List.getElem_cons_succ, Act.put, List.setIfInBounds_toArray, List.set_cons_zero, List.set_cons_succ]
      refine wpAnyH_take (i := 31) (v := ?_) rfl (by kernel_rfl) (by kernel_rfl) (by kernel_rfl) (fun _ _ _ h => h) (Or.inl ⟨by rfl, ?_⟩) hS ?_
      rotate_left 1
      · intro w' hSw
        go_simp <;> with_reducible rfl
      try simp only [List.getElem_toArray, List.getElem_cons_zero, List.getElem_cons_succ, Act.put, List.setIfInBounds_toArray, List.set_cons_zero, List.set_cons_succ]
      refine wpAnyH_ready (rs := [32]) (by kernel_rfl) (by simp) (AllReadyH.cons rfl (fun K hK => ?_) AllReadyH.nil)
      go_simp
      refine (awake_any _).mono ?_
      rintro _ p13 ⟨rfl, hb_p13⟩
      have hSn : Below wz.heap.size wz p13 := hS.trans (hb_p13.mono hS.size)
      go_simp
      refine hK _ _ hSn (fun hS => ?_)
      clear hK K hSn
      try simp only [List.getElem_toArray, List.getElem_cons_zero, List.getElem_cons_succ, Act.put, List.setIfInBounds_toArray, List.set_cons_zero, List.set_cons_succ]
      refine wpAnyH_take (i := 33) (v := ?_) rfl (by kernel_rfl) (by kernel_rfl) (by kernel_rfl) (fun _ _ _ h => h) (Or.inl ⟨by rfl, ?_⟩) hS ?_
      rotate_left 1
      · intro w' hSw
        go_simp <;> with_reducible rfl
      try simp only [List.getElem_toArray, List.getElem_cons_zero, List.getElem_cons_succ, Act.put, List.setIfInBounds_toArray, List.set_cons_zero, List.set_cons_succ]
      refine wpAnyH_take (i := 34) (v := ?_) rfl (by kernel_rfl) (by kernel_rfl) (by kernel_rfl) (fun _ _ _ h => h) (Or.inl ⟨by rfl, ?_⟩) hS ?_
      rotate_left 1
      · intro w' hSw
        go_simp <;> with_reducible rfl
      try simp only [List.getElem_toArray, List.getElem_cons_zero, List.getElem_cons_succ, Act.put, List.setIfInBounds_toArray, List.set_cons_zero, List.set_cons_succ]
      refine wpAnyH_done (by kernel_rfl) ?_ _
      have hfin := hS
      clear hS
      go_wp2_with fail
      go_ret
      exact ⟨rfl, HB.out.trans ((HBO.out.trans ((HZB.out.trans (hfin.mono HZB.out.size)).mono HBO.out.size)).mono HB.out.size)⟩
end Go.Proofs.Ytbfegghkipoppaa
