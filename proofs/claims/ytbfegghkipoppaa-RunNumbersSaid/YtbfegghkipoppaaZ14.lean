/- The machine in memory; its plain methods. The machine's methods that call. The machine's methods that read and write. The machine's methods that read and write. The machine's methods that read and write. The machine's methods that read and write. -/
import Derived.Outline
import Derived.Deep.RegionHeld3
import Derived.BigRegion
import Derived.Deep.RegionHeld2
import Derived.Test.YtbfegghkipoppaaZ10
import Derived.Test.YtbfegghkipoppaaZ1
import Derived.Test.YtbfegghkipoppaaZ5
namespace Go.Proofs.Ytbfegghkipoppaa
open Go.RowKit Go.Shelf
set_option linter.unusedVariables false
set_option maxRecDepth 100000

/-- The machine's cells. -/
def maV (r st : List Int) (pv : Value) (pc steps : Int) (dn : Bool) : List Value := (r.map (Value.int .u64) ++ u8s st) ++ [pv, .int .i64 pc, .int .i64 steps, .bool dn]
structure MaOk (r st : List Int) : Prop where
  rl : r.length = 16
  sl : st.length = 512
  rb : ∀ x ∈ r, 0 ≤ x ∧ x ≤ 18446744073709551615
  sb : Bytes st
theorem ma_reg (r st : List Int) (pv : Value) (pc steps : Int) (dn : Bool) (i : Nat) (x : Int) (h : r[i]? = some x) : (maV r st pv pc steps dn)[i]? = some (.int .u64 x) := by
  have hl := (List.getElem?_eq_some_iff.1 h).1
  unfold maV
  rw [List.append_assoc, List.getElem?_append_left (by simpa using hl), List.getElem?_map, h]; rfl
theorem ma_st (r st : List Int) (pv : Value) (pc steps : Int) (dn : Bool) (i : Nat) (x : Int) (hr : r.length = 16) (h : st[i]? = some x) : (maV r st pv pc steps dn)[16 + i]? = some (.int .u8 x) := by
  have hl := (List.getElem?_eq_some_iff.1 h).1
  unfold maV
  rw [List.getElem?_append_left (by simp [hr]; omega), List.getElem?_append_right (by simp [hr])]
  simp [u8s, hr, h]
theorem ma_tail (r st : List Int) (pv : Value) (pc steps : Int) (dn : Bool) (hr : r.length = 16) (hs : st.length = 512) (j : Nat) : (maV r st pv pc steps dn)[528 + j]? = [pv, .int .i64 pc, .int .i64 steps, .bool dn][j]? := by
  unfold maV
  rw [List.getElem?_append_right (by simp [hr, hs])]
  simp [hr, hs]
theorem ma_set_reg (r st : List Int) (pv : Value) (pc steps : Int) (dn : Bool) (i : Nat) (x : Int) (h : i < r.length) : (maV r st pv pc steps dn).set i (.int .u64 x) = maV (r.set i x) st pv pc steps dn := by
  unfold maV
  rw [List.append_assoc, List.set_append, if_pos (by simpa using h), List.append_assoc, List.map_set]
theorem ma_set_tail (r st : List Int) (pv : Value) (pc steps : Int) (dn : Bool) (hr : r.length = 16) (hs : st.length = 512) (j : Nat) (v : Value) : (maV r st pv pc steps dn).set (528 + j) v = (r.map (Value.int .u64) ++ u8s st) ++ ([pv, .int .i64 pc, .int .i64 steps, .bool dn].set j v) := by
  unfold maV
  rw [List.set_append, if_neg (by simp [hr, hs])]
  simp [hr, hs]
theorem ma_set_pc (r st : List Int) (pv : Value) (pc steps : Int) (dn : Bool) (hr : r.length = 16) (hs : st.length = 512) (x : Int) : (maV r st pv pc steps dn).set 529 (.int .i64 x) = maV r st pv x steps dn := ma_set_tail r st pv pc steps dn hr hs 1 _
theorem ma_set_steps (r st : List Int) (pv : Value) (pc steps : Int) (dn : Bool) (hr : r.length = 16) (hs : st.length = 512) (x : Int) : (maV r st pv pc steps dn).set 530 (.int .i64 x) = maV r st pv pc x dn := ma_set_tail r st pv pc steps dn hr hs 2 _
theorem ma_set_dn (r st : List Int) (pv : Value) (pc steps : Int) (dn : Bool) (hr : r.length = 16) (hs : st.length = 512) (x : Bool) : (maV r st pv pc steps dn).set 531 (.bool x) = maV r st pv pc steps x := ma_set_tail r st pv pc steps dn hr hs 3 _
theorem MaOk.set {r st : List Int} (h : MaOk r st) (i : Nat) (x : Int) (h0 : 0 ≤ x) (h1 : x ≤ 18446744073709551615) : MaOk (r.set i x) st :=
  ⟨by rw [List.length_set]; exact h.rl, h.sl, fun y hy => (List.mem_or_eq_of_mem_set hy).elim (h.rb y) (fun e => e ▸ ⟨h0, h1⟩), h.sb⟩
theorem MaOk.get {r st : List Int} (h : MaOk r st) (i : Nat) (hi : i < 16) : ∃ x, r[i]? = some x ∧ 0 ≤ x ∧ x ≤ 18446744073709551615 :=
  ⟨r[i]'(by rw [h.rl]; exact hi), List.getElem?_eq_getElem _, h.rb _ (List.getElem_mem _)⟩

theorem m_set (f : Ins) (M d : Nat) (r st : List Int) (pv : Value) (pc steps : Int) (dn : Bool) (w : World) (hM : Bk w M 53 (maV r st pv pc steps dn)) (ho : MaOk r st) (hd : Hid (f.d = d)) (hd' : d < 16) :
    Calls Try.prog 25 #[.pointer (some ⟨M, 0, none⟩), insA f] w fun e w' => e = .returned (.tuple #[]) ∧ Bk w' M 53 (maV (r.set d f.n) st pv pc steps dn) ∧ w.grownBy w' (some M) := by
  obtain ⟨x, hx, _, _⟩ := ho.get d hd'
  have hlt := hM.lt
  have ce := hM.cell d
  rw [ma_reg _ _ _ _ _ _ _ _ hx] at ce
  have fz := hM.frozen d
  have HS := Lib.hid (ma_set_reg r st pv pc steps dn d f.n (by rw [ho.rl]; exact hd'))
  have HM := Lib.hid hM
  clear hM ho hx
  unfold insA insV
  rw [hd.out]
  go_enter Try.func25, Try.ntmps25
  go_wp2_with fail
  go_region
  all_goals
    go_wp2_with fail
    go_end0
    exact ⟨rfl, by have h := (HM.out.set d (.int .u64 f.n)).alloc (.cells #[.int .u8 f.op, .int .u8 f.what, .bool f.nar, .int .i64 (d : Int), .int .i64 f.a, .int .i64 f.b, .int .u64 f.n, .int .i64 f.size, .int .i64 f.to] 40); rw [HS.out] at h; exact h, gr_drew (gr_trans (gr_set (World.grownBy.refl _ _) rfl _) (World.grownBy_alloc _ _ _))⟩
theorem m_move (f : Ins) (M d a : Nat) (r st : List Int) (pv : Value) (pc steps : Int) (dn : Bool) (w : World) (hM : Bk w M 53 (maV r st pv pc steps dn)) (ho : MaOk r st) (x : Int) (hd : Hid (f.d = d)) (hd' : d < 16) (ha : Hid (f.a = a)) (hx : r[a]? = some x) :
    Calls Try.prog 26 #[.pointer (some ⟨M, 0, none⟩), insA f] w fun e w' => e = .returned (.tuple #[]) ∧ Bk w' M 53 (maV (r.set d x) st pv pc steps dn) ∧ w.grownBy w' (some M) := by
  obtain ⟨y, hy, _, _⟩ := ho.get d hd'
  have ha' : a < 16 := by have := (List.getElem?_eq_some_iff.1 hx).1; rw [ho.rl] at this; exact this
  have hlt := hM.lt
  have ce := hM.cell d
  rw [ma_reg _ _ _ _ _ _ _ _ hy] at ce
  have ca := hM.cell a
  rw [ma_reg _ _ _ _ _ _ _ _ hx] at ca
  have fz := hM.frozen d
  have HS := Lib.hid (ma_set_reg r st pv pc steps dn d x (by rw [ho.rl]; exact hd'))
  have HM := Lib.hid hM
  clear hM ho hx hy
  unfold insA insV
  rw [hd.out, ha.out]
  go_enter Try.func26, Try.ntmps26
  go_wp2_with fail
  go_region
  all_goals
    go_wp2_with fail
    go_end0
    exact ⟨rfl, by have h := (HM.out.set d (.int .u64 x)).alloc (.cells #[.int .u8 f.op, .int .u8 f.what, .bool f.nar, .int .i64 (d : Int), .int .i64 (a : Int), .int .i64 f.b, .int .u64 f.n, .int .i64 f.size, .int .i64 f.to] 40); rw [HS.out] at h; exact h, gr_drew (gr_trans (gr_set (World.grownBy.refl _ _) rfl _) (World.grownBy_alloc _ _ _))⟩
theorem m_jump (f : Ins) (M : Nat) (r st : List Int) (pv : Value) (pc steps : Int) (dn : Bool) (w : World) (hM : Bk w M 53 (maV r st pv pc steps dn)) (ho : MaOk r st) :
    Calls Try.prog 31 #[.pointer (some ⟨M, 0, none⟩), insA f] w fun e w' => e = .returned (.tuple #[]) ∧ Bk w' M 53 (maV r st pv f.to steps dn) ∧ w.grownBy w' (some M) := by
  have hlt := hM.lt
  have ce := hM.cell 529
  rw [ma_tail r st pv pc steps dn ho.rl ho.sl 1] at ce
  simp only [List.getElem?_cons_succ, List.getElem?_cons_zero] at ce
  have fz := hM.frozen 529
  have HS := Lib.hid (ma_set_pc r st pv pc steps dn ho.rl ho.sl f.to)
  have HM := Lib.hid hM
  clear hM ho
  unfold insA insV
  go_enter Try.func31, Try.ntmps31
  go_wp2_with fail
  go_end0
  exact ⟨rfl, by have h := (HM.out.set 529 (.int .i64 f.to)).alloc (.cells #[.int .u8 f.op, .int .u8 f.what, .bool f.nar, .int .i64 f.d, .int .i64 f.a, .int .i64 f.b, .int .u64 f.n, .int .i64 f.size, .int .i64 f.to] 40); rw [HS.out] at h; exact h, (gr_trans (gr_set (World.grownBy.refl _ _) rfl _) (World.grownBy_alloc _ _ _))⟩
theorem m_end (f : Ins) (M : Nat) (r st : List Int) (pv : Value) (pc steps : Int) (dn : Bool) (w : World) (hM : Bk w M 53 (maV r st pv pc steps dn)) (ho : MaOk r st) :
    Calls Try.prog 33 #[.pointer (some ⟨M, 0, none⟩), insA f] w fun e w' => e = .returned (.tuple #[]) ∧ Bk w' M 53 (maV r st pv pc steps true) ∧ w.grownBy w' (some M) := by
  have hlt := hM.lt
  have ce := hM.cell 531
  rw [ma_tail r st pv pc steps dn ho.rl ho.sl 3] at ce
  simp only [List.getElem?_cons_succ, List.getElem?_cons_zero] at ce
  have fz := hM.frozen 531
  have HS := Lib.hid (ma_set_dn r st pv pc steps dn ho.rl ho.sl true)
  have HM := Lib.hid hM
  clear hM ho
  unfold insA insV
  go_enter Try.func33, Try.ntmps33
  go_wp2_with fail
  go_end0
  exact ⟨rfl, by have h := (HM.out.set 531 (.bool true)).alloc (.cells #[.int .u8 f.op, .int .u8 f.what, .bool f.nar, .int .i64 f.d, .int .i64 f.a, .int .i64 f.b, .int .u64 f.n, .int .i64 f.size, .int .i64 f.to] 40); rw [HS.out] at h; exact h, (gr_trans (gr_set (World.grownBy.refl _ _) rfl _) (World.grownBy_alloc _ _ _))⟩
theorem must_ok (w : World) : Calls Try.prog 49 #[.int .i64 0] w fun e w' => e = .returned (.tuple #[]) ∧ w = w' := by
  go_enter Try.func49, Try.ntmps49
  go_wp2_with fail
  go_end0
  exact ⟨rfl, rfl⟩
theorem must_err (x : Int) (hx : (x != 0) = true) (w : World) : Calls Try.prog 49 #[.int .i64 x] w fun e w' => e = thrown x ∧ w = w' := by
  go_enter Try.func49, Try.ntmps49
  go_wp2_with fail
  exact ⟨rfl, rfl, rfl⟩
/-- The place that a register and a number tell. -/
def farP (x n : Int) : Int := wrap64 (IntKind.u64.wrap (x + n))
theorem far_r (f : Ins) (M a : Nat) (r st : List Int) (pv : Value) (pc steps : Int) (dn : Bool) (w : World) (hM : Bk w M 53 (maV r st pv pc steps dn)) (ho : MaOk r st) (x : Int) (ha : Hid (f.a = a)) (hx : r[a]? = some x) (hn : 0 ≤ f.n) (hn2 : f.n ≤ 18446744073709551615) :
    Calls Try.prog 51 #[.pointer (some ⟨M, 0, none⟩), insA f] w fun e w' => e = .returned (.int .i64 (farP x f.n)) ∧ Below w.heap.size w w' := by
  have ha' : a < 16 := by have := (List.getElem?_eq_some_iff.1 hx).1; rw [ho.rl] at this; exact this
  have hlt := hM.lt
  have ca := hM.cell a
  rw [ma_reg _ _ _ _ _ _ _ _ hx] at ca
  have fz := hM.frozen a
  have hxb := ho.rb x (List.mem_of_getElem? hx)
  obtain ⟨hx0, hx1⟩ := hxb
  clear hM ho hx
  unfold insA insV
  rw [ha.out]
  go_enter Try.func51, Try.ntmps51
  go_wp2_with fail
  go_region
  all_goals
    go_wp2_with fail
    go_ret
    exact ⟨rfl, ((Below.refl _ _).alloc (Nat.le_refl _) _).drew⟩
end Go.Proofs.Ytbfegghkipoppaa
namespace Go.Proofs.Ytbfegghkipoppaa
open Go.RowKit Go.Shelf
set_option linter.unusedVariables false
set_option maxRecDepth 100000

theorem bcell {W w1 : World} (hb : Below W.heap.size W w1) : (∀ b o, b < W.heap.size → w1.cell? ⟨b, o, none⟩ = W.cell? ⟨b, o, none⟩) ∧ (∀ b o, b < W.heap.size → w1.frozen? ⟨b, o, none⟩ = W.frozen? ⟨b, o, none⟩) :=
  ⟨fun b o h => hb.cell (p := ⟨b, o, none⟩) h, fun b o h => hb.frozen (p := ⟨b, o, none⟩) h⟩
theorem Bk.drew {w : World} {g : Nat} {t : TypeId} {cs : List Value} (h : Bk w g t cs) : Bk w.drew g t cs := h
set_option maxHeartbeats 2000000 in
theorem m_alu_ok (f : Ins) (M d a b : Nat) (r st : List Int) (pv : Value) (pc steps : Int) (dn : Bool) (w : World) (hM : Bk w M 53 (maV r st pv pc steps dn)) (ho : MaOk r st) (x y : Int) (ha : Hid (f.a = a)) (hx : r[a]? = some x) (hb : Hid (f.b = b)) (hy : r[b]? = some y) (hd : Hid (f.d = d)) (hd' : d < 16) (he : Hid (DoE f.nar f.what y = 0)) :
    Calls Try.prog 27 #[.pointer (some ⟨M, 0, none⟩), insA f] w fun e w' => e = .returned (.tuple #[]) ∧ Bk w' M 53 (maV (r.set d (DoV f.nar f.what x y)) st pv pc steps dn) ∧ w.grownBy w' (some M) := by
  obtain ⟨z, hz, _, _⟩ := ho.get d hd'
  have ce := hM.cell d
  rw [ma_reg _ _ _ _ _ _ _ _ hz] at ce
  have fz := hM.frozen d
  have id1 : (0 : Int) ≤ (d : Int) := by omega
  have id2 : (d : Int) < 16 := by omega
  have ha' : a < 16 := by have := (List.getElem?_eq_some_iff.1 hx).1; rw [ho.rl] at this; exact this
  have ca := hM.cell a
  rw [ma_reg _ _ _ _ _ _ _ _ hx] at ca
  have hxb := ho.rb x (List.mem_of_getElem? hx)
  obtain ⟨hx0, hx1⟩ := hxb
  have ia1 : (0 : Int) ≤ (a : Int) := by omega
  have ia2 : (a : Int) < 16 := by omega
  have hb' : b < 16 := by have := (List.getElem?_eq_some_iff.1 hy).1; rw [ho.rl] at this; exact this
  have cb := hM.cell b
  rw [ma_reg _ _ _ _ _ _ _ _ hy] at cb
  have hyb := ho.rb y (List.mem_of_getElem? hy)
  obtain ⟨hy0, hy1⟩ := hyb
  have ib1 : (0 : Int) ≤ (b : Int) := by omega
  have ib2 : (b : Int) < 16 := by omega
  have hlt := hM.lt
  have hlt1 : M < w.heap.size + 1 := Nat.lt_succ_of_lt hlt
  have HM := Lib.hid hM
  have HO := Lib.hid ho
  clear hM ho
  unfold insA insV
  rw [hd.out, ha.out, hb.out]
  go_enter Try.func27, Try.ntmps27
  go_wp2_with fail
  go_region_held3 (fun w' => w'.cell? ⟨w.heap.size, 1, none⟩ = some (.int .u8 f.what) ∧ w'.cell? ⟨w.heap.size, 2, none⟩ = some (.bool f.nar) ∧ w'.cell? ⟨w.heap.size, 4, none⟩ = some (.int .i64 a) ∧ w'.cell? ⟨w.heap.size, 5, none⟩ = some (.int .i64 b) ∧ w'.cell? ⟨M, a, none⟩ = some (.int .u64 x) ∧ w'.cell? ⟨M, b, none⟩ = some (.int .u64 y)) (go_keep)
    ((go_at_call 48; refine (Do_any f.nar f.what x y _ hx0 hx1 hy0 hy1).mono ?_; rintro _ w1 ⟨rfl, hb1⟩; obtain ⟨hc1, hf1⟩ := bcell hb1; have hz1 := hb1.size; simp at hz1))
  have HB := Lib.hid hb1
  have HK : Hid (Bk w1 M 53 (maV r st pv pc steps dn)) := Lib.hid ((HM.out.alloc _).drew.below hb1 (HM.out.alloc _).drew.lt)
  have HS := Lib.hid (ma_set_reg r st pv pc steps dn d (DoV f.nar f.what x y) (by rw [HO.out.rl]; exact hd'))
  have e3 := (hc1 w.heap.size 3 (by simp)).trans (show _ = some (.int .i64 (d : Int)) by simp [World.cell?_alloc_new])
  have ced := (hc1 M d (by simp; omega)).trans ((World.cell?_alloc_past _ _ _ hlt).trans ce)
  have fzd : w1.frozen? ⟨M, d, none⟩ = false := HK.out.frozen d
  clear hb1 hc1 hf1
  rw [he.out]
  go_wp2_with fail
  refine (must_ok _).mono ?_
  rintro _ _ ⟨rfl, rfl⟩
  go_wp2_with fail
  go_region
  all_goals
    go_wp2_with fail
    go_end0
    exact ⟨rfl, by have h := HK.out.set d (.int .u64 (DoV f.nar f.what x y)); rw [HS.out] at h; exact h, gr_drew (gr_set (gr_trans (gr_drew (World.grownBy_alloc _ _ _)) (gr_below HB.out _)) rfl _)⟩
set_option maxHeartbeats 2000000 in
theorem m_alu_err (f : Ins) (M a b : Nat) (r st : List Int) (pv : Value) (pc steps : Int) (dn : Bool) (w : World) (hM : Bk w M 53 (maV r st pv pc steps dn)) (ho : MaOk r st) (x y : Int) (ha : Hid (f.a = a)) (hx : r[a]? = some x) (hb : Hid (f.b = b)) (hy : r[b]? = some y) (he : Hid ((DoE f.nar f.what y != 0) = true)) :
    Calls Try.prog 27 #[.pointer (some ⟨M, 0, none⟩), insA f] w fun e w' => e = thrown (DoE f.nar f.what y) ∧ Bk w' M 53 (maV r st pv pc steps dn) ∧ w.grownBy w' (some M) := by
  have ha' : a < 16 := by have := (List.getElem?_eq_some_iff.1 hx).1; rw [ho.rl] at this; exact this
  have ca := hM.cell a
  rw [ma_reg _ _ _ _ _ _ _ _ hx] at ca
  have hxb := ho.rb x (List.mem_of_getElem? hx)
  obtain ⟨hx0, hx1⟩ := hxb
  have ia1 : (0 : Int) ≤ (a : Int) := by omega
  have ia2 : (a : Int) < 16 := by omega
  have hb' : b < 16 := by have := (List.getElem?_eq_some_iff.1 hy).1; rw [ho.rl] at this; exact this
  have cb := hM.cell b
  rw [ma_reg _ _ _ _ _ _ _ _ hy] at cb
  have hyb := ho.rb y (List.mem_of_getElem? hy)
  obtain ⟨hy0, hy1⟩ := hyb
  have ib1 : (0 : Int) ≤ (b : Int) := by omega
  have ib2 : (b : Int) < 16 := by omega
  have hlt := hM.lt
  have hlt1 : M < w.heap.size + 1 := Nat.lt_succ_of_lt hlt
  have HM := Lib.hid hM
  have HO := Lib.hid ho
  clear hM ho
  unfold insA insV
  rw [ha.out, hb.out]
  go_enter Try.func27, Try.ntmps27
  go_wp2_with fail
  go_region_held3 (fun w' => w'.cell? ⟨w.heap.size, 1, none⟩ = some (.int .u8 f.what) ∧ w'.cell? ⟨w.heap.size, 2, none⟩ = some (.bool f.nar) ∧ w'.cell? ⟨w.heap.size, 4, none⟩ = some (.int .i64 a) ∧ w'.cell? ⟨w.heap.size, 5, none⟩ = some (.int .i64 b) ∧ w'.cell? ⟨M, a, none⟩ = some (.int .u64 x) ∧ w'.cell? ⟨M, b, none⟩ = some (.int .u64 y)) (go_keep)
    ((go_at_call 48; refine (Do_any f.nar f.what x y _ hx0 hx1 hy0 hy1).mono ?_; rintro _ w1 ⟨rfl, hb1⟩; obtain ⟨hc1, hf1⟩ := bcell hb1; have hz1 := hb1.size; simp at hz1))
  have HB := Lib.hid hb1
  have HK : Hid (Bk w1 M 53 (maV r st pv pc steps dn)) := Lib.hid ((HM.out.alloc _).drew.below hb1 (HM.out.alloc _).drew.lt)
  clear hb1 hc1 hf1
  go_wp2_with fail
  refine (must_err _ he.out _).mono ?_
  rintro _ _ ⟨rfl, rfl⟩
  exact ⟨rfl, rfl, HK.out, gr_trans (gr_drew (World.grownBy_alloc _ _ _)) (gr_below HB.out _)⟩
set_option maxHeartbeats 2000000 in
theorem m_ask_t (f : Ins) (M a b : Nat) (r st : List Int) (pv : Value) (pc steps : Int) (dn : Bool) (w : World) (hM : Bk w M 53 (maV r st pv pc steps dn)) (ho : MaOk r st) (x y : Int) (ha : Hid (f.a = a)) (hx : r[a]? = some x) (hb : Hid (f.b = b)) (hy : r[b]? = some y) (hw : 0 ≤ f.what) (he : Hid (IsV f.nar f.what x y = true)) :
    Calls Try.prog 32 #[.pointer (some ⟨M, 0, none⟩), insA f] w fun e w' => e = .returned (.tuple #[]) ∧ Bk w' M 53 (maV r st pv f.to steps dn) ∧ w.grownBy w' (some M) := by
  have ha' : a < 16 := by have := (List.getElem?_eq_some_iff.1 hx).1; rw [ho.rl] at this; exact this
  have ca := hM.cell a
  rw [ma_reg _ _ _ _ _ _ _ _ hx] at ca
  have hxb := ho.rb x (List.mem_of_getElem? hx)
  obtain ⟨hx0, hx1⟩ := hxb
  have ia1 : (0 : Int) ≤ (a : Int) := by omega
  have ia2 : (a : Int) < 16 := by omega
  have hb' : b < 16 := by have := (List.getElem?_eq_some_iff.1 hy).1; rw [ho.rl] at this; exact this
  have cb := hM.cell b
  rw [ma_reg _ _ _ _ _ _ _ _ hy] at cb
  have hyb := ho.rb y (List.mem_of_getElem? hy)
  obtain ⟨hy0, hy1⟩ := hyb
  have ib1 : (0 : Int) ≤ (b : Int) := by omega
  have ib2 : (b : Int) < 16 := by omega
  have hlt := hM.lt
  have hlt1 : M < w.heap.size + 1 := Nat.lt_succ_of_lt hlt
  have cp := hM.cell 529
  rw [ma_tail r st pv pc steps dn ho.rl ho.sl 1] at cp
  simp only [List.getElem?_cons_succ, List.getElem?_cons_zero] at cp
  have fp := hM.frozen 529
  have HS := Lib.hid (ma_set_pc r st pv pc steps dn ho.rl ho.sl f.to)
  have HM := Lib.hid hM
  have HO := Lib.hid ho
  clear hM ho
  unfold insA insV
  rw [ha.out, hb.out]
  go_enter Try.func32, Try.ntmps32
  go_wp2_with fail
  go_region_held3 (fun w' => w'.cell? ⟨w.heap.size, 1, none⟩ = some (.int .u8 f.what) ∧ w'.cell? ⟨w.heap.size, 2, none⟩ = some (.bool f.nar) ∧ w'.cell? ⟨w.heap.size, 4, none⟩ = some (.int .i64 a) ∧ w'.cell? ⟨w.heap.size, 5, none⟩ = some (.int .i64 b) ∧ w'.cell? ⟨M, a, none⟩ = some (.int .u64 x) ∧ w'.cell? ⟨M, b, none⟩ = some (.int .u64 y)) (go_keep)
    ((go_at_call 54; refine (Is_any f.nar f.what x y _ hw hx0 hx1 hy0 hy1).mono ?_; rintro _ _ ⟨rfl, rfl⟩))
  rw [he.out]
  go_wp2_with fail
  go_end0
  exact ⟨rfl, by have h := (HM.out.set 529 (.int .i64 f.to)).alloc (.cells #[.int .u8 f.op, .int .u8 f.what, .bool f.nar, .int .i64 f.d, .int .i64 (a : Int), .int .i64 (b : Int), .int .u64 f.n, .int .i64 f.size, .int .i64 f.to] 40); rw [HS.out] at h; exact h, gr_drew (gr_trans (gr_set (World.grownBy.refl _ _) rfl _) (World.grownBy_alloc _ _ _))⟩
set_option maxHeartbeats 2000000 in
theorem m_ask_f (f : Ins) (M a b : Nat) (r st : List Int) (pv : Value) (pc steps : Int) (dn : Bool) (w : World) (hM : Bk w M 53 (maV r st pv pc steps dn)) (ho : MaOk r st) (x y : Int) (ha : Hid (f.a = a)) (hx : r[a]? = some x) (hb : Hid (f.b = b)) (hy : r[b]? = some y) (hw : 0 ≤ f.what) (he : Hid (IsV f.nar f.what x y = false)) :
    Calls Try.prog 32 #[.pointer (some ⟨M, 0, none⟩), insA f] w fun e w' => e = .returned (.tuple #[]) ∧ Bk w' M 53 (maV r st pv pc steps dn) ∧ w.grownBy w' (some M) := by
  have ha' : a < 16 := by have := (List.getElem?_eq_some_iff.1 hx).1; rw [ho.rl] at this; exact this
  have ca := hM.cell a
  rw [ma_reg _ _ _ _ _ _ _ _ hx] at ca
  have hxb := ho.rb x (List.mem_of_getElem? hx)
  obtain ⟨hx0, hx1⟩ := hxb
  have ia1 : (0 : Int) ≤ (a : Int) := by omega
  have ia2 : (a : Int) < 16 := by omega
  have hb' : b < 16 := by have := (List.getElem?_eq_some_iff.1 hy).1; rw [ho.rl] at this; exact this
  have cb := hM.cell b
  rw [ma_reg _ _ _ _ _ _ _ _ hy] at cb
  have hyb := ho.rb y (List.mem_of_getElem? hy)
  obtain ⟨hy0, hy1⟩ := hyb
  have ib1 : (0 : Int) ≤ (b : Int) := by omega
  have ib2 : (b : Int) < 16 := by omega
  have hlt := hM.lt
  have hlt1 : M < w.heap.size + 1 := Nat.lt_succ_of_lt hlt
  have HM := Lib.hid hM
  have HO := Lib.hid ho
  clear hM ho
  unfold insA insV
  rw [ha.out, hb.out]
  go_enter Try.func32, Try.ntmps32
  go_wp2_with fail
  go_region_held3 (fun w' => w'.cell? ⟨w.heap.size, 1, none⟩ = some (.int .u8 f.what) ∧ w'.cell? ⟨w.heap.size, 2, none⟩ = some (.bool f.nar) ∧ w'.cell? ⟨w.heap.size, 4, none⟩ = some (.int .i64 a) ∧ w'.cell? ⟨w.heap.size, 5, none⟩ = some (.int .i64 b) ∧ w'.cell? ⟨M, a, none⟩ = some (.int .u64 x) ∧ w'.cell? ⟨M, b, none⟩ = some (.int .u64 y)) (go_keep)
    ((go_at_call 54; refine (Is_any f.nar f.what x y _ hw hx0 hx1 hy0 hy1).mono ?_; rintro _ _ ⟨rfl, rfl⟩))
  rw [he.out]
  go_wp2_with fail
  go_end0
  exact ⟨rfl, HM.out.alloc _, gr_drew (World.grownBy_alloc _ _ _)⟩
end Go.Proofs.Ytbfegghkipoppaa
namespace Go.Proofs.Ytbfegghkipoppaa
open Go.RowKit Go.Shelf
set_option linter.unusedVariables false
set_option maxRecDepth 100000

theorem far_range (x n : Int) : -9223372036854775808 ≤ farP x n ∧ farP x n ≤ 9223372036854775807 := by
  unfold farP wrap64; constructor <;> omega
set_option maxHeartbeats 2000000 in
theorem m_cell_ok (f : Ins) (M a : Nat) (r st : List Int) (pv : Value) (pc steps : Int) (dn : Bool) (w : World) (hM : Bk w M 53 (maV r st pv pc steps dn)) (ho : MaOk r st) (x : Int) (ha : Hid (f.a = a)) (hx : r[a]? = some x) (hn : 0 ≤ f.n) (hn2 : f.n ≤ 18446744073709551615) (hs : 1 ≤ f.size) (hs8 : f.size ≤ 8) (hk1 : -512 ≤ farP x f.n) (hk2 : farP x f.n ≤ -f.size) :
    Calls Try.prog 52 #[.pointer (some ⟨M, 0, none⟩), insA f] w fun e w' => e = .returned (.int .i64 (farP x f.n + 512)) ∧ Below w.heap.size w w' := by
  have ha' : a < 16 := by have := (List.getElem?_eq_some_iff.1 hx).1; rw [ho.rl] at this; exact this
  have ca := hM.cell a
  rw [ma_reg _ _ _ _ _ _ _ _ hx] at ca
  have hxb := ho.rb x (List.mem_of_getElem? hx)
  obtain ⟨hx0, hx1⟩ := hxb
  have ia1 : (0 : Int) ≤ (a : Int) := by omega
  have ia2 : (a : Int) < 16 := by omega
  obtain ⟨hR1, hR2⟩ := far_range x f.n
  have hfar := fun W hW => far_r f M a r st pv pc steps dn W hW ho x ha hx hn hn2
  obtain ⟨t, ht⟩ : ∃ t, t = farP x f.n := ⟨_, rfl⟩
  rw [← ht] at hR1 hR2 hk1 hk2 ⊢
  rw [← ht] at hfar
  clear ht
  simp only [insA, insV, ha.out] at hfar
  have HFAR := Lib.hid hfar
  clear hfar
  have hlt := hM.lt
  have hlt1 : M < w.heap.size + 1 := Nat.lt_succ_of_lt hlt
  have HM := Lib.hid hM
  have HO := Lib.hid ho
  clear hM ho
  unfold insA insV
  rw [ha.out]
  go_enter Try.func52, Try.ntmps52
  go_wp2_with fail
  go_region_held3 (fun w' => w'.cell? ⟨w.heap.size, 0, none⟩ = some (.int .u8 f.op) ∧ w'.cell? ⟨w.heap.size, 1, none⟩ = some (.int .u8 f.what) ∧ w'.cell? ⟨w.heap.size, 2, none⟩ = some (.bool f.nar) ∧ w'.cell? ⟨w.heap.size, 3, none⟩ = some (.int .i64 f.d) ∧ w'.cell? ⟨w.heap.size, 4, none⟩ = some (.int .i64 (a : Int)) ∧ w'.cell? ⟨w.heap.size, 5, none⟩ = some (.int .i64 f.b) ∧ w'.cell? ⟨w.heap.size, 6, none⟩ = some (.int .u64 f.n) ∧ w'.cell? ⟨w.heap.size, 7, none⟩ = some (.int .i64 f.size) ∧ w'.cell? ⟨w.heap.size, 8, none⟩ = some (.int .i64 f.to)) (go_keep)
    ((go_at_call 51; refine (HFAR.out _ (show Bk (w.alloc (.cells _ 40)).drew M 53 (maV r st pv pc steps dn) from HM.out.alloc _)).mono ?_; rintro _ w1 ⟨rfl, hb1⟩; obtain ⟨hc1, hf1⟩ := bcell hb1; have hz1 := hb1.size; simp at hz1))
  have d1 : decide (t < -512) = false := decide_eq_false (by omega)
  have d2 : decide (-f.size < t) = false := decide_eq_false (by omega)
  have HB := Lib.hid hb1
  have es := (hc1 w.heap.size 7 (by simp)).trans (show _ = some (.int .i64 f.size) by simp [World.cell?_alloc_new])
  clear hb1 hc1 hf1
  go_wp2_with fail
  go_ret
  exact ⟨rfl, (((Below.refl _ _).alloc (Nat.le_refl _) _).drew).trans (HB.out.mono (by simp))⟩
set_option maxHeartbeats 2000000 in
theorem m_cell_err (f : Ins) (M a : Nat) (r st : List Int) (pv : Value) (pc steps : Int) (dn : Bool) (w : World) (hM : Bk w M 53 (maV r st pv pc steps dn)) (ho : MaOk r st) (x : Int) (ha : Hid (f.a = a)) (hx : r[a]? = some x) (hn : 0 ≤ f.n) (hn2 : f.n ≤ 18446744073709551615) (hs : 1 ≤ f.size) (hs8 : f.size ≤ 8) (hk : ¬ (-512 ≤ farP x f.n ∧ farP x f.n ≤ -f.size)) :
    Calls Try.prog 52 #[.pointer (some ⟨M, 0, none⟩), insA f] w fun e w' => e = thrown 112 ∧ Below w.heap.size w w' := by
  have ha' : a < 16 := by have := (List.getElem?_eq_some_iff.1 hx).1; rw [ho.rl] at this; exact this
  have ca := hM.cell a
  rw [ma_reg _ _ _ _ _ _ _ _ hx] at ca
  have hxb := ho.rb x (List.mem_of_getElem? hx)
  obtain ⟨hx0, hx1⟩ := hxb
  have ia1 : (0 : Int) ≤ (a : Int) := by omega
  have ia2 : (a : Int) < 16 := by omega
  obtain ⟨hR1, hR2⟩ := far_range x f.n
  have hfar := fun W hW => far_r f M a r st pv pc steps dn W hW ho x ha hx hn hn2
  obtain ⟨t, ht⟩ : ∃ t, t = farP x f.n := ⟨_, rfl⟩
  rw [← ht] at hR1 hR2 hk
  rw [← ht] at hfar
  clear ht
  simp only [insA, insV, ha.out] at hfar
  have HFAR := Lib.hid hfar
  clear hfar
  have hlt := hM.lt
  have hlt1 : M < w.heap.size + 1 := Nat.lt_succ_of_lt hlt
  have HM := Lib.hid hM
  have HO := Lib.hid ho
  clear hM ho
  unfold insA insV
  rw [ha.out]
  go_enter Try.func52, Try.ntmps52
  go_wp2_with fail
  go_region_held3 (fun w' => w'.cell? ⟨w.heap.size, 0, none⟩ = some (.int .u8 f.op) ∧ w'.cell? ⟨w.heap.size, 1, none⟩ = some (.int .u8 f.what) ∧ w'.cell? ⟨w.heap.size, 2, none⟩ = some (.bool f.nar) ∧ w'.cell? ⟨w.heap.size, 3, none⟩ = some (.int .i64 f.d) ∧ w'.cell? ⟨w.heap.size, 4, none⟩ = some (.int .i64 (a : Int)) ∧ w'.cell? ⟨w.heap.size, 5, none⟩ = some (.int .i64 f.b) ∧ w'.cell? ⟨w.heap.size, 6, none⟩ = some (.int .u64 f.n) ∧ w'.cell? ⟨w.heap.size, 7, none⟩ = some (.int .i64 f.size) ∧ w'.cell? ⟨w.heap.size, 8, none⟩ = some (.int .i64 f.to)) (go_keep)
    ((go_at_call 51; refine (HFAR.out _ (show Bk (w.alloc (.cells _ 40)).drew M 53 (maV r st pv pc steps dn) from HM.out.alloc _)).mono ?_; rintro _ w1 ⟨rfl, hb1⟩; obtain ⟨hc1, hf1⟩ := bcell hb1; have hz1 := hb1.size; simp at hz1))
  have HB := Lib.hid hb1
  have es := (hc1 w.heap.size 7 (by simp)).trans (show _ = some (.int .i64 f.size) by simp [World.cell?_alloc_new])
  clear hb1 hc1 hf1
  by_cases h1 : t < -512
  · have d1 : decide (t < -512) = true := decide_eq_true h1
    go_wp2_with fail
    exact ⟨rfl, rfl, (((Below.refl _ _).alloc (Nat.le_refl _) _).drew).trans (HB.out.mono (by simp))⟩
  · have d1 : decide (t < -512) = false := decide_eq_false h1
    have d2 : decide (-f.size < t) = true := decide_eq_true (by omega)
    go_wp2_with fail
    exact ⟨rfl, rfl, (((Below.refl _ _).alloc (Nat.le_refl _) _).drew).trans (HB.out.mono (by simp))⟩
end Go.Proofs.Ytbfegghkipoppaa
namespace Go.Proofs.Ytbfegghkipoppaa
open Go.RowKit Go.Shelf
set_option linter.unusedVariables false
set_option maxRecDepth 100000

set_option maxHeartbeats 2000000 in
theorem m_load_ok (f : Ins) (M d a : Nat) (r st : List Int) (pv : Value) (pc steps : Int) (dn : Bool) (w : World) (hM : Bk w M 53 (maV r st pv pc steps dn)) (ho : MaOk r st) (x : Int) (ha : Hid (f.a = a)) (hx : r[a]? = some x) (hn : 0 ≤ f.n) (hn2 : f.n ≤ 18446744073709551615) (hd : Hid (f.d = d)) (hd' : d < 16) (A : Option Addr) (c : Nat) (pk : List Int) (B : Nat) (hpv : Hid (pv = .slice A pk.length c)) (hpk : Rd w B A c (u8s pk)) (hB : B ≤ w.heap.size) (hpb : Bytes pk) (hpl : pk.length ≤ 1000000) (he : (errOf pk.length (farP x f.n) f.size) = 0) :
    Calls Try.prog 28 #[.pointer (some ⟨M, 0, none⟩), insA f] w fun e w' => e = .returned (.tuple #[]) ∧ Bk w' M 53 (maV (r.set d (getR pk (farP x f.n) f.size)) st pv pc steps dn) ∧ w.grownBy w' (some M) := by
  obtain ⟨z, hz, _, _⟩ := ho.get d hd'
  have ce := hM.cell d
  rw [ma_reg _ _ _ _ _ _ _ _ hz] at ce
  have fz := hM.frozen d
  have id1 : (0 : Int) ≤ (d : Int) := by omega
  have id2 : (d : Int) < 16 := by omega
  have ha' : a < 16 := by have := (List.getElem?_eq_some_iff.1 hx).1; rw [ho.rl] at this; exact this
  have ca := hM.cell a
  rw [ma_reg _ _ _ _ _ _ _ _ hx] at ca
  have hxb := ho.rb x (List.mem_of_getElem? hx)
  obtain ⟨hx0, hx1⟩ := hxb
  have ia1 : (0 : Int) ≤ (a : Int) := by omega
  have ia2 : (a : Int) < 16 := by omega
  have cpv := hM.cell 528
  rw [ma_tail r st pv pc steps dn ho.rl ho.sl 0] at cpv
  simp only [List.getElem?_cons_zero, hpv.out] at cpv
  have HPK := Lib.hid hpk
  clear hpk
  obtain ⟨hR1, hR2⟩ := far_range x f.n
  have hfar := fun W hW => far_r f M a r st pv pc steps dn W hW ho x ha hx hn hn2
  obtain ⟨t, ht⟩ : ∃ t, t = farP x f.n := ⟨_, rfl⟩
  rw [← ht] at hR1 hR2 ⊢
  rw [← ht] at hfar
  have ht' := ht
  clear ht
  simp only [insA, insV, ha.out, hd.out] at hfar
  have HFAR := Lib.hid hfar
  clear hfar
  have HS := Lib.hid (ma_set_reg r st pv pc steps dn d (getR pk t f.size) (by rw [ho.rl]; exact hd'))
  rw [← ht'] at he
  clear ht'
  have HE := Lib.hid he
  clear he
  have hlt := hM.lt
  have hlt1 : M < w.heap.size + 1 := Nat.lt_succ_of_lt hlt
  have HM := Lib.hid hM
  have HO := Lib.hid ho
  clear hM ho
  unfold insA insV
  rw [hd.out, ha.out]
  go_enter Try.func28, Try.ntmps28
  go_wp2_with fail
  go_region_held3 (fun w' => w'.cell? ⟨w.heap.size, 0, none⟩ = some (.int .u8 f.op) ∧ w'.cell? ⟨w.heap.size, 1, none⟩ = some (.int .u8 f.what) ∧ w'.cell? ⟨w.heap.size, 2, none⟩ = some (.bool f.nar) ∧ w'.cell? ⟨w.heap.size, 3, none⟩ = some (.int .i64 (d : Int)) ∧ w'.cell? ⟨w.heap.size, 4, none⟩ = some (.int .i64 (a : Int)) ∧ w'.cell? ⟨w.heap.size, 5, none⟩ = some (.int .i64 f.b) ∧ w'.cell? ⟨w.heap.size, 6, none⟩ = some (.int .u64 f.n) ∧ w'.cell? ⟨w.heap.size, 7, none⟩ = some (.int .i64 f.size) ∧ w'.cell? ⟨w.heap.size, 8, none⟩ = some (.int .i64 f.to) ∧ w'.cell? ⟨M, 528, none⟩ = some (.slice A pk.length c)) (go_keep)
    (first | (go_at_call 51; refine (HFAR.out _ (show Bk (w.alloc (.cells _ 40)).drew M 53 (maV r st pv pc steps dn) from HM.out.alloc _)).mono ?_; rintro _ w1 ⟨rfl, hb1⟩; obtain ⟨hc1, hf1⟩ := bcell hb1; have hz1 := hb1.size; simp at hz1; have hP1 : Hid (Rd w1 w1.heap.size A c (u8s pk)) := Lib.hid ((HPK.out.below ((((Below.refl w.heap.size w).alloc (Nat.le_refl _) (.cells _ 40)).drew.trans (hb1.mono (by simp))).mono hB)).mono (by omega))) | (go_at_call 50; refine (get_any A c pk t f.size _ hP1.out hpb hpl hR1 hR2).mono ?_; rintro _ w2 ⟨rfl, hb2⟩; obtain ⟨hc2, hf2⟩ := bcell hb2; have hz2 := hb2.size; have hlt2 : M < w1.heap.size := (by omega); have hlt3 : w.heap.size < w1.heap.size := (by omega)))
  have HK : Hid (Bk w2 M 53 (maV r st pv pc steps dn)) := Lib.hid (((HM.out.alloc _).drew.below hb1 (HM.out.alloc _).drew.lt).below hb2 hlt2)
  have HB := Lib.hid (hb1.trans (hb2.mono (by simp; omega)))
  have e3 := ((hc2 w.heap.size 3 hlt3).trans (hc1 w.heap.size 3 (by simp))).trans (show _ = some (.int .i64 (d : Int)) by simp [World.cell?_alloc_new])
  have ced := ((hc2 M d hlt2).trans (hc1 M d (by simp; omega))).trans ((World.cell?_alloc_past _ _ _ hlt).trans ce)
  have fzd : w2.frozen? ⟨M, d, none⟩ = false := HK.out.frozen d
  clear hb1 hc1 hf1 hb2 hc2 hf2 cpv
  rw [HE.out]
  go_wp2_with fail
  refine (must_ok _).mono ?_
  rintro _ _ ⟨rfl, rfl⟩
  go_wp2_with fail
  go_region
  all_goals
    go_wp2_with fail
    go_end0
    exact ⟨rfl, by have h := HK.out.set d (.int .u64 (getR pk t f.size)); rw [HS.out] at h; exact h, gr_drew (gr_set (gr_trans (gr_drew (World.grownBy_alloc _ _ _)) (gr_below HB.out _)) rfl _)⟩
set_option maxHeartbeats 2000000 in
theorem m_load_err (f : Ins) (M a : Nat) (r st : List Int) (pv : Value) (pc steps : Int) (dn : Bool) (w : World) (hM : Bk w M 53 (maV r st pv pc steps dn)) (ho : MaOk r st) (x : Int) (ha : Hid (f.a = a)) (hx : r[a]? = some x) (hn : 0 ≤ f.n) (hn2 : f.n ≤ 18446744073709551615) (A : Option Addr) (c : Nat) (pk : List Int) (B : Nat) (hpv : Hid (pv = .slice A pk.length c)) (hpk : Rd w B A c (u8s pk)) (hB : B ≤ w.heap.size) (hpb : Bytes pk) (hpl : pk.length ≤ 1000000) (he : (errOf pk.length (farP x f.n) f.size != 0) = true) :
    Calls Try.prog 28 #[.pointer (some ⟨M, 0, none⟩), insA f] w fun e w' => e = thrown (errOf pk.length (farP x f.n) f.size) ∧ Bk w' M 53 (maV r st pv pc steps dn) ∧ w.grownBy w' (some M) := by
  have ha' : a < 16 := by have := (List.getElem?_eq_some_iff.1 hx).1; rw [ho.rl] at this; exact this
  have ca := hM.cell a
  rw [ma_reg _ _ _ _ _ _ _ _ hx] at ca
  have hxb := ho.rb x (List.mem_of_getElem? hx)
  obtain ⟨hx0, hx1⟩ := hxb
  have ia1 : (0 : Int) ≤ (a : Int) := by omega
  have ia2 : (a : Int) < 16 := by omega
  have cpv := hM.cell 528
  rw [ma_tail r st pv pc steps dn ho.rl ho.sl 0] at cpv
  simp only [List.getElem?_cons_zero, hpv.out] at cpv
  have HPK := Lib.hid hpk
  clear hpk
  obtain ⟨hR1, hR2⟩ := far_range x f.n
  have hfar := fun W hW => far_r f M a r st pv pc steps dn W hW ho x ha hx hn hn2
  obtain ⟨t, ht⟩ : ∃ t, t = farP x f.n := ⟨_, rfl⟩
  rw [← ht] at hR1 hR2 ⊢
  rw [← ht] at hfar
  have ht' := ht
  clear ht
  simp only [insA, insV, ha.out] at hfar
  have HFAR := Lib.hid hfar
  clear hfar
  rw [← ht'] at he
  clear ht'
  have HE := Lib.hid he
  clear he
  have hlt := hM.lt
  have hlt1 : M < w.heap.size + 1 := Nat.lt_succ_of_lt hlt
  have HM := Lib.hid hM
  have HO := Lib.hid ho
  clear hM ho
  unfold insA insV
  rw [ha.out]
  go_enter Try.func28, Try.ntmps28
  go_wp2_with fail
  go_region_held3 (fun w' => w'.cell? ⟨w.heap.size, 0, none⟩ = some (.int .u8 f.op) ∧ w'.cell? ⟨w.heap.size, 1, none⟩ = some (.int .u8 f.what) ∧ w'.cell? ⟨w.heap.size, 2, none⟩ = some (.bool f.nar) ∧ w'.cell? ⟨w.heap.size, 3, none⟩ = some (.int .i64 f.d) ∧ w'.cell? ⟨w.heap.size, 4, none⟩ = some (.int .i64 (a : Int)) ∧ w'.cell? ⟨w.heap.size, 5, none⟩ = some (.int .i64 f.b) ∧ w'.cell? ⟨w.heap.size, 6, none⟩ = some (.int .u64 f.n) ∧ w'.cell? ⟨w.heap.size, 7, none⟩ = some (.int .i64 f.size) ∧ w'.cell? ⟨w.heap.size, 8, none⟩ = some (.int .i64 f.to) ∧ w'.cell? ⟨M, 528, none⟩ = some (.slice A pk.length c)) (go_keep)
    (first | (go_at_call 51; refine (HFAR.out _ (show Bk (w.alloc (.cells _ 40)).drew M 53 (maV r st pv pc steps dn) from HM.out.alloc _)).mono ?_; rintro _ w1 ⟨rfl, hb1⟩; obtain ⟨hc1, hf1⟩ := bcell hb1; have hz1 := hb1.size; simp at hz1; have hP1 : Hid (Rd w1 w1.heap.size A c (u8s pk)) := Lib.hid ((HPK.out.below ((((Below.refl w.heap.size w).alloc (Nat.le_refl _) (.cells _ 40)).drew.trans (hb1.mono (by simp))).mono hB)).mono (by omega))) | (go_at_call 50; refine (get_any A c pk t f.size _ hP1.out hpb hpl hR1 hR2).mono ?_; rintro _ w2 ⟨rfl, hb2⟩; obtain ⟨hc2, hf2⟩ := bcell hb2; have hz2 := hb2.size; have hlt2 : M < w1.heap.size := (by omega); have hlt3 : w.heap.size < w1.heap.size := (by omega)))
  have HK : Hid (Bk w2 M 53 (maV r st pv pc steps dn)) := Lib.hid (((HM.out.alloc _).drew.below hb1 (HM.out.alloc _).drew.lt).below hb2 hlt2)
  have HB := Lib.hid (hb1.trans (hb2.mono (by simp; omega)))
  clear hb1 hc1 hf1 hb2 hc2 hf2 cpv
  go_wp2_with fail
  refine (must_err _ HE.out _).mono ?_
  rintro _ _ ⟨rfl, rfl⟩
  exact ⟨rfl, rfl, HK.out, gr_trans (gr_drew (World.grownBy_alloc _ _ _)) (gr_below HB.out _)⟩
end Go.Proofs.Ytbfegghkipoppaa
namespace Go.Proofs.Ytbfegghkipoppaa
open Go.RowKit Go.Shelf
set_option linter.unusedVariables false
set_option maxRecDepth 100000

theorem st_rd {w : World} {M : Nat} {r st : List Int} {pv : Value} {pc steps : Int} {dn : Bool} (h : Bk w M 53 (maV r st pv pc steps dn)) (hr : r.length = 16) : Rd w w.heap.size (some ⟨M, 16, none⟩) 512 (u8s st) := by
  refine ⟨fun e => (by cases e), fun _ => ⟨_, rfl, h.lt, fun j u hu => ?_⟩⟩
  simp only [u8s, List.getElem?_map] at hu
  cases hj : st[j]? with
  | none => rw [hj] at hu; cases hu
  | some x =>
    rw [hj] at hu
    injection hu with hu
    subst hu
    have := h.cell (16 + j)
    rw [ma_st r st pv pc steps dn j x hr hj] at this
    rw [← this]
    unfold Addr.add
    split <;> simp_all
set_option linter.unusedSimpArgs false in
set_option maxHeartbeats 2000000 in
theorem m_read_ok (f : Ins) (M d a : Nat) (r st : List Int) (pv : Value) (pc steps : Int) (dn : Bool) (w : World) (hM : Bk w M 53 (maV r st pv pc steps dn)) (ho : MaOk r st) (x : Int) (ha : Hid (f.a = a)) (hx : r[a]? = some x) (hn : 0 ≤ f.n) (hn2 : f.n ≤ 18446744073709551615) (hsz : Hid (okSz f.size = true)) (hd : Hid (f.d = d)) (hd' : d < 16) (hk1 : -512 ≤ farP x f.n) (hk2 : farP x f.n ≤ -f.size) :
    Calls Try.prog 29 #[.pointer (some ⟨M, 0, none⟩), insA f] w fun e w' => e = .returned (.tuple #[]) ∧ Bk w' M 53 (maV (r.set d (getR st (farP x f.n + 512) f.size)) st pv pc steps dn) ∧ w.grownBy w' (some M) := by
  obtain ⟨z, hz, _, _⟩ := ho.get d hd'
  have ce := hM.cell d
  rw [ma_reg _ _ _ _ _ _ _ _ hz] at ce
  have fz := hM.frozen d
  have id1 : (0 : Int) ≤ (d : Int) := by omega
  have id2 : (d : Int) < 16 := by omega
  have ha' : a < 16 := by have := (List.getElem?_eq_some_iff.1 hx).1; rw [ho.rl] at this; exact this
  have ca := hM.cell a
  rw [ma_reg _ _ _ _ _ _ _ _ hx] at ca
  have hxb := ho.rb x (List.mem_of_getElem? hx)
  obtain ⟨hx0, hx1⟩ := hxb
  have ia1 : (0 : Int) ≤ (a : Int) := by omega
  have ia2 : (a : Int) < 16 := by omega
  have hs1 : 1 ≤ f.size := by have := place_size _ hsz.out; omega
  have hs8 : f.size ≤ 8 := by have := place_size _ hsz.out; omega
  obtain ⟨hR1, hR2⟩ := far_range x f.n
  have hcell := fun W hW => m_cell_ok f M a r st pv pc steps dn W hW ho x ha hx hn hn2 (by omega) (by omega) hk1 hk2
  obtain ⟨t, ht⟩ : ∃ t, t = farP x f.n := ⟨_, rfl⟩
  rw [← ht] at hR1 hR2 hk1 hk2 ⊢
  rw [← ht] at hcell
  clear ht
  simp only [insA, insV, ha.out, hd.out] at hcell
  have HCELL := Lib.hid hcell
  clear hcell
  have HS := Lib.hid (ma_set_reg r st pv pc steps dn d (getR st (t + 512) f.size) (by rw [ho.rl]; exact hd'))
  have hget := fun W (hW : Bk W M 53 (maV r st pv pc steps dn)) => get_any (some ⟨M, 16, none⟩) 512 st (t + 512) f.size W (st_rd hW ho.rl) ho.sb (by rw [ho.sl]; omega) (by omega) (by omega)
  rw [ho.sl, errOf_0 hsz.out (by omega) (by omega)] at hget
  have HGET := Lib.hid hget
  clear hget
  have hlt := hM.lt
  have hlt1 : M < w.heap.size + 1 := Nat.lt_succ_of_lt hlt
  have HM := Lib.hid hM
  have HO := Lib.hid ho
  clear hM ho
  unfold insA insV
  rw [hd.out, ha.out]
  go_enter Try.func29, Try.ntmps29
  go_wp2_with fail
  go_region_held3 (fun w' => w'.cell? ⟨w.heap.size, 0, none⟩ = some (.int .u8 f.op) ∧ w'.cell? ⟨w.heap.size, 1, none⟩ = some (.int .u8 f.what) ∧ w'.cell? ⟨w.heap.size, 2, none⟩ = some (.bool f.nar) ∧ w'.cell? ⟨w.heap.size, 3, none⟩ = some (.int .i64 (d : Int)) ∧ w'.cell? ⟨w.heap.size, 4, none⟩ = some (.int .i64 (a : Int)) ∧ w'.cell? ⟨w.heap.size, 5, none⟩ = some (.int .i64 f.b) ∧ w'.cell? ⟨w.heap.size, 6, none⟩ = some (.int .u64 f.n) ∧ w'.cell? ⟨w.heap.size, 7, none⟩ = some (.int .i64 f.size) ∧ w'.cell? ⟨w.heap.size, 8, none⟩ = some (.int .i64 f.to)) (go_keep)
    (first | (go_at_call 52; refine (HCELL.out _ (show Bk (w.alloc (.cells _ 40)).drew M 53 (maV r st pv pc steps dn) from HM.out.alloc _)).mono ?_; rintro _ w1 ⟨rfl, hb1⟩; obtain ⟨hc1, hf1⟩ := bcell hb1; have hz1 := hb1.size; simp at hz1; have hM1 : Hid (Bk w1 M 53 (maV r st pv pc steps dn)) := Lib.hid ((HM.out.alloc _).drew.below hb1 (HM.out.alloc _).drew.lt)) | (go_at_call 50; refine (HGET.out _ hM1.out).mono ?_; rintro _ w2 ⟨rfl, hb2⟩; obtain ⟨hc2, hf2⟩ := bcell hb2; have hz2 := hb2.size; have hlt2 : M < w1.heap.size := (by omega); have hlt3 : w.heap.size < w1.heap.size := (by omega); have ced := ((hc2 M d hlt2).trans (hc1 M d (by simp; omega))).trans ((World.cell?_alloc_past _ _ _ hlt).trans ce); have fzd : w2.frozen? ⟨M, d, none⟩ = false := (hM1.out.below hb2 hM1.out.lt).frozen d; have hne : M ≠ w.heap.size := (by omega); have hne' : w.heap.size ≠ M := (by omega)))
  have HK := (hM1.out.below hb2 hM1.out.lt)
  have HB := Lib.hid (hb1.trans (hb2.mono (by simp; omega)))
  clear hb1 hc1 hf1 hb2 hc2 hf2
  go_wp2_with fail
  go_end0
  exact ⟨rfl, by have h := HK.set d (.int .u64 (getR st (t + 512) f.size)); rw [HS.out] at h; exact h, (gr_set (gr_trans (gr_drew (World.grownBy_alloc _ _ _)) (gr_below HB.out _)) rfl _)⟩
set_option linter.unusedSimpArgs false in
set_option maxHeartbeats 2000000 in
theorem m_read_err (f : Ins) (M d a : Nat) (r st : List Int) (pv : Value) (pc steps : Int) (dn : Bool) (w : World) (hM : Bk w M 53 (maV r st pv pc steps dn)) (ho : MaOk r st) (x : Int) (ha : Hid (f.a = a)) (hx : r[a]? = some x) (hn : 0 ≤ f.n) (hn2 : f.n ≤ 18446744073709551615) (hsz : Hid (okSz f.size = true)) (hd : Hid (f.d = d)) (hd' : d < 16) (hk : ¬ (-512 ≤ farP x f.n ∧ farP x f.n ≤ -f.size)) :
    Calls Try.prog 29 #[.pointer (some ⟨M, 0, none⟩), insA f] w fun e w' => e = thrown 112 ∧ Bk w' M 53 (maV r st pv pc steps dn) ∧ w.grownBy w' (some M) := by
  obtain ⟨z, hz, _, _⟩ := ho.get d hd'
  have ce := hM.cell d
  rw [ma_reg _ _ _ _ _ _ _ _ hz] at ce
  have fz := hM.frozen d
  have id1 : (0 : Int) ≤ (d : Int) := by omega
  have id2 : (d : Int) < 16 := by omega
  have ha' : a < 16 := by have := (List.getElem?_eq_some_iff.1 hx).1; rw [ho.rl] at this; exact this
  have ca := hM.cell a
  rw [ma_reg _ _ _ _ _ _ _ _ hx] at ca
  have hxb := ho.rb x (List.mem_of_getElem? hx)
  obtain ⟨hx0, hx1⟩ := hxb
  have ia1 : (0 : Int) ≤ (a : Int) := by omega
  have ia2 : (a : Int) < 16 := by omega
  have hs1 : 1 ≤ f.size := by have := place_size _ hsz.out; omega
  have hs8 : f.size ≤ 8 := by have := place_size _ hsz.out; omega
  obtain ⟨hR1, hR2⟩ := far_range x f.n
  have hcell := fun W hW => m_cell_err f M a r st pv pc steps dn W hW ho x ha hx hn hn2 (by omega) (by omega) hk
  obtain ⟨t, ht⟩ : ∃ t, t = farP x f.n := ⟨_, rfl⟩
  rw [← ht] at hR1 hR2 hk
  clear ht
  simp only [insA, insV, ha.out, hd.out] at hcell
  have HCELL := Lib.hid hcell
  clear hcell
  have hlt := hM.lt
  have hlt1 : M < w.heap.size + 1 := Nat.lt_succ_of_lt hlt
  have HM := Lib.hid hM
  have HO := Lib.hid ho
  clear hM ho
  unfold insA insV
  rw [hd.out, ha.out]
  go_enter Try.func29, Try.ntmps29
  go_wp2_with fail
  refine wp_region_held_drew (S := (fun w' => w'.cell? ⟨w.heap.size, 0, none⟩ = some (.int .u8 f.op) ∧ w'.cell? ⟨w.heap.size, 1, none⟩ = some (.int .u8 f.what) ∧ w'.cell? ⟨w.heap.size, 2, none⟩ = some (.bool f.nar) ∧ w'.cell? ⟨w.heap.size, 3, none⟩ = some (.int .i64 (d : Int)) ∧ w'.cell? ⟨w.heap.size, 4, none⟩ = some (.int .i64 (a : Int)) ∧ w'.cell? ⟨w.heap.size, 5, none⟩ = some (.int .i64 f.b) ∧ w'.cell? ⟨w.heap.size, 6, none⟩ = some (.int .u64 f.n) ∧ w'.cell? ⟨w.heap.size, 7, none⟩ = some (.int .i64 f.size) ∧ w'.cell? ⟨w.heap.size, 8, none⟩ = some (.int .i64 f.to))) (by kernel_rfl) (by go_keep) (fun hS => ?_)
  refine wpAnyH_take (i := 0) (v := ?_) rfl (by kernel_rfl) (by kernel_rfl) (by kernel_rfl) (fun _ _ _ h => h) (Or.inl ⟨by rfl, ?_⟩) hS ?_
  rotate_left 1
  · intro w' hSw
    go_simp <;> with_reducible rfl
  try simp only [List.getElem_toArray, List.getElem_cons_zero, List.getElem_cons_succ, Act.put, List.setIfInBounds_toArray, List.set_cons_zero, List.set_cons_succ]
  refine wpAnyH_take (i := 1) (v := ?_) rfl (by kernel_rfl) (by kernel_rfl) (by kernel_rfl) (fun _ _ _ h => h) (Or.inl ⟨by rfl, ?_⟩) hS ?_
  rotate_left 1
  · intro w' hSw
    go_simp <;> with_reducible rfl
  try simp only [List.getElem_toArray, List.getElem_cons_zero, List.getElem_cons_succ, Act.put, List.setIfInBounds_toArray, List.set_cons_zero, List.set_cons_succ]
  refine wpAnyH_take (i := 2) (v := ?_) rfl (by kernel_rfl) (by kernel_rfl) (by kernel_rfl) (fun _ _ _ h => h) (Or.inl ⟨by rfl, ?_⟩) hS ?_
  rotate_left 1
  · intro w' hSw
    go_simp <;> with_reducible rfl
  try simp only [List.getElem_toArray, List.getElem_cons_zero, List.getElem_cons_succ, Act.put, List.setIfInBounds_toArray, List.set_cons_zero, List.set_cons_succ]
  refine wpAnyH_take (i := 3) (v := ?_) rfl (by kernel_rfl) (by kernel_rfl) (by kernel_rfl) (fun _ _ _ h => h) (Or.inl ⟨by rfl, ?_⟩) hS ?_
  rotate_left 1
  · intro w' hSw
    go_simp <;> with_reducible rfl
  try simp only [List.getElem_toArray, List.getElem_cons_zero, List.getElem_cons_succ, Act.put, List.setIfInBounds_toArray, List.set_cons_zero, List.set_cons_succ]
  refine wpAnyH_take (i := 4) (v := ?_) rfl (by kernel_rfl) (by kernel_rfl) (by kernel_rfl) (fun _ _ _ h => h) (Or.inl ⟨by rfl, ?_⟩) hS ?_
  rotate_left 1
  · intro w' hSw
    go_simp <;> with_reducible rfl
  try simp only [List.getElem_toArray, List.getElem_cons_zero, List.getElem_cons_succ, Act.put, List.setIfInBounds_toArray, List.set_cons_zero, List.set_cons_succ]
  refine wpAnyH_take (i := 5) (v := ?_) rfl (by kernel_rfl) (by kernel_rfl) (by kernel_rfl) (fun _ _ _ h => h) (Or.inl ⟨by rfl, ?_⟩) hS ?_
  rotate_left 1
  · intro w' hSw
    go_simp <;> with_reducible rfl
  try simp only [List.getElem_toArray, List.getElem_cons_zero, List.getElem_cons_succ, Act.put, List.setIfInBounds_toArray, List.set_cons_zero, List.set_cons_succ]
  refine wpAnyH_take (i := 6) (v := ?_) rfl (by kernel_rfl) (by kernel_rfl) (by kernel_rfl) (fun _ _ _ h => h) (Or.inl ⟨by rfl, ?_⟩) hS ?_
  rotate_left 1
  · intro w' hSw
    go_simp <;> with_reducible rfl
  try simp only [List.getElem_toArray, List.getElem_cons_zero, List.getElem_cons_succ, Act.put, List.setIfInBounds_toArray, List.set_cons_zero, List.set_cons_succ]
  refine wpAnyH_take (i := 7) (v := ?_) rfl (by kernel_rfl) (by kernel_rfl) (by kernel_rfl) (fun _ _ _ h => h) (Or.inl ⟨by rfl, ?_⟩) hS ?_
  rotate_left 1
  · intro w' hSw
    go_simp <;> with_reducible rfl
  try simp only [List.getElem_toArray, List.getElem_cons_zero, List.getElem_cons_succ, Act.put, List.setIfInBounds_toArray, List.set_cons_zero, List.set_cons_succ]
  refine wpAnyH_take (i := 8) (v := ?_) rfl (by kernel_rfl) (by kernel_rfl) (by kernel_rfl) (fun _ _ _ h => h) (Or.inl ⟨by rfl, ?_⟩) hS ?_
  rotate_left 1
  · intro w' hSw
    go_simp <;> with_reducible rfl
  try simp only [List.getElem_toArray, List.getElem_cons_zero, List.getElem_cons_succ, Act.put, List.setIfInBounds_toArray, List.set_cons_zero, List.set_cons_succ]
  refine wpAnyH_take (i := 10) (v := ?_) rfl (by kernel_rfl) (by kernel_rfl) (by kernel_rfl) (fun _ _ _ h => h) (Or.inl ⟨by rfl, ?_⟩) hS ?_
  rotate_left 1
  · intro w' hSw
    go_simp <;> with_reducible rfl
  try simp only [List.getElem_toArray, List.getElem_cons_zero, List.getElem_cons_succ, Act.put, List.setIfInBounds_toArray, List.set_cons_zero, List.set_cons_succ]
  refine wpAnyH_take (i := 11) (v := ?_) rfl (by kernel_rfl) (by kernel_rfl) (by kernel_rfl) (fun _ _ _ h => h) (Or.inl ⟨by rfl, ?_⟩) hS ?_
  rotate_left 1
  · intro w' hSw
    go_simp <;> with_reducible rfl
  try simp only [List.getElem_toArray, List.getElem_cons_zero, List.getElem_cons_succ, Act.put, List.setIfInBounds_toArray, List.set_cons_zero, List.set_cons_succ]
  refine wpAnyH_take (i := 16) (v := ?_) rfl (by kernel_rfl) (by kernel_rfl) (by kernel_rfl) (fun _ _ _ h => h) (Or.inl ⟨by rfl, ?_⟩) hS ?_
  rotate_left 1
  · intro w' hSw
    go_simp <;> with_reducible rfl
  try simp only [List.getElem_toArray, List.getElem_cons_zero, List.getElem_cons_succ, Act.put, List.setIfInBounds_toArray, List.set_cons_zero, List.set_cons_succ]
  refine wpAnyH_take (i := 17) (v := ?_) rfl (by kernel_rfl) (by kernel_rfl) (by kernel_rfl) (fun _ _ _ h => h) (Or.inl ⟨by rfl, ?_⟩) hS ?_
  rotate_left 1
  · intro w' hSw
    go_simp <;> with_reducible rfl
  try simp only [List.getElem_toArray, List.getElem_cons_zero, List.getElem_cons_succ, Act.put, List.setIfInBounds_toArray, List.set_cons_zero, List.set_cons_succ]
  refine wpAnyH_ready (rs := [9]) (by kernel_rfl) (by simp) (AllReadyH.cons rfl (fun K hK => ?_) AllReadyH.nil)
  go_simp
  refine (HCELL.out _ (show Bk (w.alloc (.cells _ 40)).drew M 53 (maV r st pv pc steps dn) from HM.out.alloc _)).mono ?_
  rintro _ w1 ⟨rfl, hb1⟩
  have hM1 : Bk w1 M 53 (maV r st pv pc steps dn) := ((HM.out.alloc _).drew.below hb1 (HM.out.alloc _).drew.lt)
  exact ⟨rfl, rfl, hM1, gr_trans (gr_drew (World.grownBy_alloc _ _ _)) (gr_below hb1 _)⟩
end Go.Proofs.Ytbfegghkipoppaa
namespace Go.Proofs.Ytbfegghkipoppaa
open Go.RowKit Go.Shelf
set_option linter.unusedVariables false
set_option maxRecDepth 100000

set_option linter.unusedSimpArgs false in
set_option maxHeartbeats 2000000 in
theorem m_write_ok (f : Ins) (M a b : Nat) (r st : List Int) (pv : Value) (pc steps : Int) (dn : Bool) (w : World) (hM : Bk w M 53 (maV r st pv pc steps dn)) (ho : MaOk r st) (x : Int) (ha : Hid (f.a = a)) (hx : r[a]? = some x) (hn : 0 ≤ f.n) (hn2 : f.n ≤ 18446744073709551615) (y : Int) (hb : Hid (f.b = b)) (hy : r[b]? = some y) (hsz : Hid (okSz f.size = true)) (hk1 : -512 ≤ farP x f.n) (hk2 : farP x f.n ≤ -f.size) :
    Calls Try.prog 30 #[.pointer (some ⟨M, 0, none⟩), insA f] w fun e w' => e = .returned (.tuple #[]) ∧ Bk w' M 53 (maV r (setA st 512 (farP x f.n + 512) f.size y) pv pc steps dn) ∧ w.grownBy w' (some M) := by
  have ha' : a < 16 := by have := (List.getElem?_eq_some_iff.1 hx).1; rw [ho.rl] at this; exact this
  have ca := hM.cell a
  rw [ma_reg _ _ _ _ _ _ _ _ hx] at ca
  have hxb := ho.rb x (List.mem_of_getElem? hx)
  obtain ⟨hx0, hx1⟩ := hxb
  have ia1 : (0 : Int) ≤ (a : Int) := by omega
  have ia2 : (a : Int) < 16 := by omega
  have hb' : b < 16 := by have := (List.getElem?_eq_some_iff.1 hy).1; rw [ho.rl] at this; exact this
  have cb := hM.cell b
  rw [ma_reg _ _ _ _ _ _ _ _ hy] at cb
  have hyb := ho.rb y (List.mem_of_getElem? hy)
  obtain ⟨hy0, hy1⟩ := hyb
  have ib1 : (0 : Int) ≤ (b : Int) := by omega
  have ib2 : (b : Int) < 16 := by omega
  have hs1 : 1 ≤ f.size := by have := place_size _ hsz.out; omega
  have hs8 : f.size ≤ 8 := by have := place_size _ hsz.out; omega
  obtain ⟨hR1, hR2⟩ := far_range x f.n
  have hcell := fun W hW => m_cell_ok f M a r st pv pc steps dn W hW ho x ha hx hn hn2 (by omega) (by omega) hk1 hk2
  obtain ⟨t, ht⟩ : ∃ t, t = farP x f.n := ⟨_, rfl⟩
  rw [← ht] at hR1 hR2 hk1 hk2 ⊢
  rw [← ht] at hcell
  clear ht
  simp only [insA, insV, ha.out, hb.out] at hcell
  have HCELL := Lib.hid hcell
  clear hcell
  have hset := fun W (hW : Bk W M 53 (maV r st pv pc steps dn)) => set_in M 512 512 16 53 (r.map (Value.int .u64)) [pv, .int .i64 pc, .int .i64 steps, .bool dn] (by simp [ho.rl]) st (t + 512) f.size y W hW (by omega) (by rw [ho.sl]; omega) (by omega) (by omega) hy0 hy1
  have HSET := Lib.hid hset
  clear hset
  have HY := Lib.hid hy
  clear hy
  have hy := HY
  clear HY
  have hlt := hM.lt
  have hlt1 : M < w.heap.size + 1 := Nat.lt_succ_of_lt hlt
  have HM := Lib.hid hM
  have HO := Lib.hid ho
  clear hM ho
  unfold insA insV
  rw [ha.out, hb.out]
  go_enter Try.func30, Try.ntmps30
  go_wp2_with fail
  go_region_held3 (fun w' => w'.cell? ⟨w.heap.size, 0, none⟩ = some (.int .u8 f.op) ∧ w'.cell? ⟨w.heap.size, 1, none⟩ = some (.int .u8 f.what) ∧ w'.cell? ⟨w.heap.size, 2, none⟩ = some (.bool f.nar) ∧ w'.cell? ⟨w.heap.size, 3, none⟩ = some (.int .i64 f.d) ∧ w'.cell? ⟨w.heap.size, 4, none⟩ = some (.int .i64 (a : Int)) ∧ w'.cell? ⟨w.heap.size, 5, none⟩ = some (.int .i64 (b : Int)) ∧ w'.cell? ⟨w.heap.size, 6, none⟩ = some (.int .u64 f.n) ∧ w'.cell? ⟨w.heap.size, 7, none⟩ = some (.int .i64 f.size) ∧ w'.cell? ⟨w.heap.size, 8, none⟩ = some (.int .i64 f.to) ∧ w'.cell? ⟨M, b, none⟩ = some (.int .u64 y)) (go_keep)
    (first | (go_at_call 52; refine (HCELL.out _ (show Bk (w.alloc (.cells _ 40)).drew M 53 (maV r st pv pc steps dn) from HM.out.alloc _)).mono ?_; rintro _ w1 ⟨rfl, hb1⟩; obtain ⟨hc1, hf1⟩ := bcell hb1; have hz1 := hb1.size; simp at hz1; have hM1 : Hid (Bk w1 M 53 (maV r st pv pc steps dn)) := Lib.hid ((HM.out.alloc _).drew.below hb1 (HM.out.alloc _).drew.lt)) | (go_at_call 53; refine (HSET.out _ hM1.out).mono ?_; rintro _ w2 ⟨rfl, hK2, hg2⟩; have hlt3 : w.heap.size < w1.heap.size := (by omega); have hne : (some w.heap.size) ≠ some M := (by intro e; injection e with e; omega); have hc2 : ∀ j, w2.cell? ⟨w.heap.size, j, none⟩ = w1.cell? ⟨w.heap.size, j, none⟩ := (fun j => World.cell?_of_block (hg2.block w.heap.size hlt3 hne)); have cb2 : w2.cell? ⟨M, b, none⟩ = some (.int .u64 y) := ((hK2.cell b).trans (ma_reg r (setA st 512 (t + 512) f.size y) pv pc steps dn b y hy.out))))
  have HB := Lib.hid hb1
  clear hb1 hc1 hf1
  go_wp2_with fail
  go_end0
  exact ⟨rfl, hK2, gr_trans (gr_drew (World.grownBy_alloc _ _ _)) (gr_trans (gr_below HB.out _) hg2)⟩
set_option linter.unusedSimpArgs false in
set_option maxHeartbeats 2000000 in
theorem m_write_err (f : Ins) (M a b : Nat) (r st : List Int) (pv : Value) (pc steps : Int) (dn : Bool) (w : World) (hM : Bk w M 53 (maV r st pv pc steps dn)) (ho : MaOk r st) (x : Int) (ha : Hid (f.a = a)) (hx : r[a]? = some x) (hn : 0 ≤ f.n) (hn2 : f.n ≤ 18446744073709551615) (y : Int) (hb : Hid (f.b = b)) (hy : r[b]? = some y) (hsz : Hid (okSz f.size = true)) (hk : ¬ (-512 ≤ farP x f.n ∧ farP x f.n ≤ -f.size)) :
    Calls Try.prog 30 #[.pointer (some ⟨M, 0, none⟩), insA f] w fun e w' => e = thrown 112 ∧ Bk w' M 53 (maV r st pv pc steps dn) ∧ w.grownBy w' (some M) := by
  have ha' : a < 16 := by have := (List.getElem?_eq_some_iff.1 hx).1; rw [ho.rl] at this; exact this
  have ca := hM.cell a
  rw [ma_reg _ _ _ _ _ _ _ _ hx] at ca
  have hxb := ho.rb x (List.mem_of_getElem? hx)
  obtain ⟨hx0, hx1⟩ := hxb
  have ia1 : (0 : Int) ≤ (a : Int) := by omega
  have ia2 : (a : Int) < 16 := by omega
  have hb' : b < 16 := by have := (List.getElem?_eq_some_iff.1 hy).1; rw [ho.rl] at this; exact this
  have cb := hM.cell b
  rw [ma_reg _ _ _ _ _ _ _ _ hy] at cb
  have hyb := ho.rb y (List.mem_of_getElem? hy)
  obtain ⟨hy0, hy1⟩ := hyb
  have ib1 : (0 : Int) ≤ (b : Int) := by omega
  have ib2 : (b : Int) < 16 := by omega
  have hs1 : 1 ≤ f.size := by have := place_size _ hsz.out; omega
  have hs8 : f.size ≤ 8 := by have := place_size _ hsz.out; omega
  obtain ⟨hR1, hR2⟩ := far_range x f.n
  have hcell := fun W hW => m_cell_err f M a r st pv pc steps dn W hW ho x ha hx hn hn2 (by omega) (by omega) hk
  obtain ⟨t, ht⟩ : ∃ t, t = farP x f.n := ⟨_, rfl⟩
  rw [← ht] at hR1 hR2 hk
  clear ht
  simp only [insA, insV, ha.out, hb.out] at hcell
  have HCELL := Lib.hid hcell
  clear hcell
  have hlt := hM.lt
  have hlt1 : M < w.heap.size + 1 := Nat.lt_succ_of_lt hlt
  have HM := Lib.hid hM
  have HO := Lib.hid ho
  clear hM ho
  unfold insA insV
  rw [ha.out, hb.out]
  go_enter Try.func30, Try.ntmps30
  go_wp2_with fail
  refine wp_region_held_drew (S := (fun w' => w'.cell? ⟨w.heap.size, 0, none⟩ = some (.int .u8 f.op) ∧ w'.cell? ⟨w.heap.size, 1, none⟩ = some (.int .u8 f.what) ∧ w'.cell? ⟨w.heap.size, 2, none⟩ = some (.bool f.nar) ∧ w'.cell? ⟨w.heap.size, 3, none⟩ = some (.int .i64 f.d) ∧ w'.cell? ⟨w.heap.size, 4, none⟩ = some (.int .i64 (a : Int)) ∧ w'.cell? ⟨w.heap.size, 5, none⟩ = some (.int .i64 (b : Int)) ∧ w'.cell? ⟨w.heap.size, 6, none⟩ = some (.int .u64 f.n) ∧ w'.cell? ⟨w.heap.size, 7, none⟩ = some (.int .i64 f.size) ∧ w'.cell? ⟨w.heap.size, 8, none⟩ = some (.int .i64 f.to) ∧ w'.cell? ⟨M, b, none⟩ = some (.int .u64 y))) (by kernel_rfl) (by go_keep) (fun hS => ?_)
  refine wpAnyH_take (i := 0) (v := ?_) rfl (by kernel_rfl) (by kernel_rfl) (by kernel_rfl) (fun _ _ _ h => h) (Or.inl ⟨by rfl, ?_⟩) hS ?_
  rotate_left 1
  · intro w' hSw
    go_simp <;> with_reducible rfl
  try simp only [List.getElem_toArray, List.getElem_cons_zero, List.getElem_cons_succ, Act.put, List.setIfInBounds_toArray, List.set_cons_zero, List.set_cons_succ]
  refine wpAnyH_take (i := 1) (v := ?_) rfl (by kernel_rfl) (by kernel_rfl) (by kernel_rfl) (fun _ _ _ h => h) (Or.inl ⟨by rfl, ?_⟩) hS ?_
  rotate_left 1
  · intro w' hSw
    go_simp <;> with_reducible rfl
  try simp only [List.getElem_toArray, List.getElem_cons_zero, List.getElem_cons_succ, Act.put, List.setIfInBounds_toArray, List.set_cons_zero, List.set_cons_succ]
  refine wpAnyH_take (i := 2) (v := ?_) rfl (by kernel_rfl) (by kernel_rfl) (by kernel_rfl) (fun _ _ _ h => h) (Or.inl ⟨by rfl, ?_⟩) hS ?_
  rotate_left 1
  · intro w' hSw
    go_simp <;> with_reducible rfl
  try simp only [List.getElem_toArray, List.getElem_cons_zero, List.getElem_cons_succ, Act.put, List.setIfInBounds_toArray, List.set_cons_zero, List.set_cons_succ]
  refine wpAnyH_take (i := 3) (v := ?_) rfl (by kernel_rfl) (by kernel_rfl) (by kernel_rfl) (fun _ _ _ h => h) (Or.inl ⟨by rfl, ?_⟩) hS ?_
  rotate_left 1
  · intro w' hSw
    go_simp <;> with_reducible rfl
  try simp only [List.getElem_toArray, List.getElem_cons_zero, List.getElem_cons_succ, Act.put, List.setIfInBounds_toArray, List.set_cons_zero, List.set_cons_succ]
  refine wpAnyH_take (i := 4) (v := ?_) rfl (by kernel_rfl) (by kernel_rfl) (by kernel_rfl) (fun _ _ _ h => h) (Or.inl ⟨by rfl, ?_⟩) hS ?_
  rotate_left 1
  · intro w' hSw
    go_simp <;> with_reducible rfl
  try simp only [List.getElem_toArray, List.getElem_cons_zero, List.getElem_cons_succ, Act.put, List.setIfInBounds_toArray, List.set_cons_zero, List.set_cons_succ]
  refine wpAnyH_take (i := 5) (v := ?_) rfl (by kernel_rfl) (by kernel_rfl) (by kernel_rfl) (fun _ _ _ h => h) (Or.inl ⟨by rfl, ?_⟩) hS ?_
  rotate_left 1
  · intro w' hSw
    go_simp <;> with_reducible rfl
  try simp only [List.getElem_toArray, List.getElem_cons_zero, List.getElem_cons_succ, Act.put, List.setIfInBounds_toArray, List.set_cons_zero, List.set_cons_succ]
  refine wpAnyH_take (i := 7) (v := ?_) rfl (by kernel_rfl) (by kernel_rfl) (by kernel_rfl) (fun _ _ _ h => h) (Or.inl ⟨by rfl, ?_⟩) hS ?_
  rotate_left 1
  · intro w' hSw
    go_simp <;> with_reducible rfl
  try simp only [List.getElem_toArray, List.getElem_cons_zero, List.getElem_cons_succ, Act.put, List.setIfInBounds_toArray, List.set_cons_zero, List.set_cons_succ]
  refine wpAnyH_take (i := 8) (v := ?_) rfl (by kernel_rfl) (by kernel_rfl) (by kernel_rfl) (fun _ _ _ h => h) (Or.inl ⟨by rfl, ?_⟩) hS ?_
  rotate_left 1
  · intro w' hSw
    go_simp <;> with_reducible rfl
  try simp only [List.getElem_toArray, List.getElem_cons_zero, List.getElem_cons_succ, Act.put, List.setIfInBounds_toArray, List.set_cons_zero, List.set_cons_succ]
  refine wpAnyH_take (i := 9) (v := ?_) rfl (by kernel_rfl) (by kernel_rfl) (by kernel_rfl) (fun _ _ _ h => h) (Or.inl ⟨by rfl, ?_⟩) hS ?_
  rotate_left 1
  · intro w' hSw
    go_simp <;> with_reducible rfl
  try simp only [List.getElem_toArray, List.getElem_cons_zero, List.getElem_cons_succ, Act.put, List.setIfInBounds_toArray, List.set_cons_zero, List.set_cons_succ]
  refine wpAnyH_take (i := 10) (v := ?_) rfl (by kernel_rfl) (by kernel_rfl) (by kernel_rfl) (fun _ _ _ h => h) (Or.inl ⟨by rfl, ?_⟩) hS ?_
  rotate_left 1
  · intro w' hSw
    go_simp <;> with_reducible rfl
  try simp only [List.getElem_toArray, List.getElem_cons_zero, List.getElem_cons_succ, Act.put, List.setIfInBounds_toArray, List.set_cons_zero, List.set_cons_succ]
  refine wpAnyH_take (i := 11) (v := ?_) rfl (by kernel_rfl) (by kernel_rfl) (by kernel_rfl) (fun _ _ _ h => h) (Or.inl ⟨by rfl, ?_⟩) hS ?_
  rotate_left 1
  · intro w' hSw
    go_simp <;> with_reducible rfl
  try simp only [List.getElem_toArray, List.getElem_cons_zero, List.getElem_cons_succ, Act.put, List.setIfInBounds_toArray, List.set_cons_zero, List.set_cons_succ]
  refine wpAnyH_take (i := 12) (v := ?_) rfl (by kernel_rfl) (by kernel_rfl) (by kernel_rfl) (fun _ _ _ h => h) (Or.inl ⟨by rfl, ?_⟩) hS ?_
  rotate_left 1
  · intro w' hSw
    go_simp <;> with_reducible rfl
  try simp only [List.getElem_toArray, List.getElem_cons_zero, List.getElem_cons_succ, Act.put, List.setIfInBounds_toArray, List.set_cons_zero, List.set_cons_succ]
  refine wpAnyH_take (i := 13) (v := ?_) rfl (by kernel_rfl) (by kernel_rfl) (by kernel_rfl) (fun _ _ _ h => h) (Or.inl ⟨by rfl, ?_⟩) hS ?_
  rotate_left 1
  · intro w' hSw
    go_simp <;> with_reducible rfl
  try simp only [List.getElem_toArray, List.getElem_cons_zero, List.getElem_cons_succ, Act.put, List.setIfInBounds_toArray, List.set_cons_zero, List.set_cons_succ]
  refine wpAnyH_take (i := 14) (v := ?_) rfl (by kernel_rfl) (by kernel_rfl) (by kernel_rfl) (fun _ _ _ h => h) (Or.inl ⟨by rfl, ?_⟩) hS ?_
  rotate_left 1
  · intro w' hSw
    go_simp <;> with_reducible rfl
  try simp only [List.getElem_toArray, List.getElem_cons_zero, List.getElem_cons_succ, Act.put, List.setIfInBounds_toArray, List.set_cons_zero, List.set_cons_succ]
  refine wpAnyH_take (i := 15) (v := ?_) rfl (by kernel_rfl) (by kernel_rfl) (by kernel_rfl) (fun _ _ _ h => h) (Or.inl ⟨by rfl, ?_⟩) hS ?_
  rotate_left 1
  · intro w' hSw
    go_simp <;> with_reducible rfl
  try simp only [List.getElem_toArray, List.getElem_cons_zero, List.getElem_cons_succ, Act.put, List.setIfInBounds_toArray, List.set_cons_zero, List.set_cons_succ]
  refine wpAnyH_ready (rs := [6]) (by kernel_rfl) (by simp) (AllReadyH.cons rfl (fun K hK => ?_) AllReadyH.nil)
  go_simp
  refine (HCELL.out _ (show Bk (w.alloc (.cells _ 40)).drew M 53 (maV r st pv pc steps dn) from HM.out.alloc _)).mono ?_
  rintro _ w1 ⟨rfl, hb1⟩
  have hM1 : Bk w1 M 53 (maV r st pv pc steps dn) := ((HM.out.alloc _).drew.below hb1 (HM.out.alloc _).drew.lt)
  exact ⟨rfl, rfl, hM1, gr_trans (gr_drew (World.grownBy_alloc _ _ _)) (gr_below hb1 _)⟩
end Go.Proofs.Ytbfegghkipoppaa
