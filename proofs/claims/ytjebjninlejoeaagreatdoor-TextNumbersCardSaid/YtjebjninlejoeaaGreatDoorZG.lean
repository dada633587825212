/- text, the walk: rows of instructions; are all right?. text, the walk: Show. -/
import Derived.Test.YtjebjninlejoeaaGreatDoorTBuild
import Derived.Test.YtjebjninlejoeaaGreatDoorZF
namespace Go.Proofs.YtjebjninlejoeaaGreatDoor
open Go.RowKit Go.Maps Go.ChangeMaps
set_option linter.unusedVariables false
set_option linter.unusedSimpArgs false
set_option linter.unusedSectionVars false
set_option maxRecDepth 100000

/-- A slice of instructions, in blocks of K. -/
def Ivs (w : World) (K : Nat → Prop) (A : Option Addr) (c : Nat) (l : List IV) : Prop :=
  l.length ≤ c ∧ (l ≠ [] → ∃ g o, A = some ⟨g, o, none⟩ ∧ K g ∧ ∀ (j : Nat) (i : IV), l[j]? = some i → ∀ (m : Nat) (v : Value), (ivV i)[m]? = some v → w.cell? ⟨g, o + j * 8 + m, none⟩ = some v)
theorem Ivs.keep {w w' : World} {K : Nat → Prop} {A : Option Addr} {c : Nat} {l : List IV} (h : Ivs w K A c l) (hk : ∀ b, b < w.heap.size → K b → w'.heap[b]? = w.heap[b]?) : Ivs w' K A c l := by
  refine ⟨h.1, fun hx => ?_⟩
  obtain ⟨g, o, e, hg, hc⟩ := h.2 hx
  exact ⟨g, o, e, hg, fun j i hj m v hv => (World.cell?_of_block (hk g (World.block_lt_of_cell? w _ (hc j i hj m v hv)) hg)).trans (hc j i hj m v hv)⟩
theorem Ivs.below {w w' : World} {K : Nat → Prop} {A : Option Addr} {c : Nat} {l : List IV} (h : Ivs w K A c l) (hb : Below w.heap.size w w') : Ivs w' K A c l := h.keep fun b hl _ => hb.block b hl
theorem Ivs.at_ {w : World} {K : Nat → Prop} {A : Option Addr} {c : Nat} {l : List IV} (h : Ivs w K A c l) {k : Nat} {i : IV} (hk : l[k]? = some i) : ∃ g o, A = some ⟨g, o, none⟩ ∧
    w.cell? ⟨g, o + k * 8, none⟩ = some (.int .u8 i.op) ∧ w.cell? ⟨g, o + k * 8 + 1, none⟩ = some (.bool i.narrow) ∧ w.cell? ⟨g, o + k * 8 + 2, none⟩ = some (.int .i64 i.dst) ∧ w.cell? ⟨g, o + k * 8 + 3, none⟩ = some (.int .i64 i.src) ∧ w.cell? ⟨g, o + k * 8 + 4, none⟩ = some (.bool i.useImm) ∧ w.cell? ⟨g, o + k * 8 + 5, none⟩ = some (.int .i64 i.off) ∧ w.cell? ⟨g, o + k * 8 + 6, none⟩ = some (.int .i64 i.imm) ∧ w.cell? ⟨g, o + k * 8 + 7, none⟩ = some (.int .i64 i.size) := by
  obtain ⟨g, o, e, hg, hc⟩ := h.2 (by rintro rfl; simp at hk)
  have := hc k i hk
  exact ⟨g, o, e, this 0 _ rfl, this 1 _ rfl, this 2 _ rfl, this 3 _ rfl, this 4 _ rfl, this 5 _ rfl, this 6 _ rfl, this 7 _ rfl⟩
theorem wrong_any (i : IV) (w : World) : Calls Tryz.prog 34 #[.agg (ivV i).toArray] w fun e w' => e = .returned (.bool (!rightP i)) ∧ Below w.heap.size w w' := by
  have hR := right_any i
  obtain ⟨op, nr, d, s, u, o, m, z⟩ := i
  show Calls Tryz.prog 34 #[.agg #[.int .u8 op, .bool nr, .int .i64 d, .int .i64 s, .bool u, .int .i64 o, .int .i64 m, .int .i64 z]] w _
  have n1 := (Below.refl w.heap.size w).alloc (Nat.le_refl _) (.cells #[.int .u8 op, .bool nr, .int .i64 d, .int .i64 s, .bool u, .int .i64 o, .int .i64 m, .int .i64 z] 40)
  unfold ivV at hR
  go_enter Tryz.func34, Tryz.ntmps34
  go_wp2_with fail
  (with_reducible refine (hR _).mono ?_)
  rintro _ w1 ⟨rfl, b1⟩
  go_wp2_with fail
  go_ret
  exact ⟨rfl, n1.trans (b1.mono n1.size)⟩
set_option maxHeartbeats 1000000 in
theorem index_any {K : Nat → Prop} (A : Option Addr) (c : Nat) (l : List IV) (w : World) (h : Ivs w K A c l) (hl : l.length ≤ 100000) : Calls Tryz.prog 98 #[.slice A l.length c, .func (.func 34) #[] #[]] w fun e w' => (∃ r : Int, e = .returned (.int .i64 r) ∧ (0 ≤ r ↔ l.all rightP = false)) ∧ Below w.heap.size w w' := by
  go_enter Tryz.func98, Tryz.ntmps98
  go_wp2_with fail
  go_loopw [8] (fun i wr => ∃ k : Nat, k ≤ l.length ∧ i = .int .i64 k ∧ (l.take k).all rightP = true ∧ Below w.heap.size w wr) (fun i _ => l.length - (intOf i).toNat)
  case atStart => exact ⟨0, Nat.zero_le _, rfl, rfl, Below.refl _ _⟩
  case round =>
    obtain ⟨k, hk, rfl, hall, hb⟩ := hrel
    by_cases hlt : k < l.length
    · have d1 : decide ((k : Int) < (l.length : Int)) = true := decide_eq_true (by omega)
      obtain ⟨i, hi⟩ : ∃ i, l[k]? = some i := ⟨l[k], List.getElem?_eq_getElem hlt⟩
      obtain ⟨g, o, rfl, c0, c1, c2, c3, c4, c5, c6, c7⟩ := (h.below hb).at_ hi
      have q1 : (0 : Int) ≤ (k : Int) := by omega
      have q2 : (k : Int) < (l.length : Int) := by omega
      have hw := wrong_any i wr
      unfold ivV at hw
      have hm := List.mem_of_getElem? hi
      cases hr : rightP i with
      | true =>
        rw [hr] at hw
        go_wp2_with fail
        (with_reducible refine hw.mono ?_)
        rintro _ w2 ⟨rfl, b2⟩
        go_wp2_with fail
        go_roundw
        case rel =>
          refine ⟨k + 1, by omega, by go_num, ?_, hb.trans (b2.mono hb.size)⟩
          rw [List.take_add_one, hi, List.all_append, hall]
          simp [hr]
        case measure => simp [intOf]; omega
      | false =>
        rw [hr] at hw
        have hA : l.all rightP = false := by
          rw [Bool.eq_false_iff]
          intro q
          have := List.all_eq_true.1 q i hm
          rw [hr] at this
          cases this
        go_wp2_with fail
        (with_reducible refine hw.mono ?_)
        rintro _ w2 ⟨rfl, b2⟩
        go_wp2_with fail
        go_ret
        exact ⟨⟨k, rfl, by rw [hA]; simp⟩, hb.trans (b2.mono hb.size)⟩
    · have d1 : decide ((k : Int) < (l.length : Int)) = false := decide_eq_false (by omega)
      rw [List.take_of_length_le (by omega)] at hall
      go_wp2_with fail
      go_ret
      exact ⟨⟨-1, rfl, by rw [hall]; simp⟩, hb⟩
theorem contains_aux {K : Nat → Prop} (b : Bool) (A : Option Addr) (c : Nat) (l : List IV) (w : World) (h : Ivs w K A c l) (hl : l.length ≤ 100000) (hb : (l.all rightP = false ↔ b = true)) : Calls Tryz.prog 33 #[.slice A l.length c, .func (.func 34) #[] #[]] w fun e w' => e = .returned (.bool b) ∧ Below w.heap.size w w' := by
  have hI : Calls _ _ _ _ fun e w' => (∃ r : Int, e = .returned (.int .i64 r) ∧ decide (0 ≤ r) = b) ∧ Below w.heap.size w w' := (index_any A c l w h hl).mono fun e w' ⟨⟨r, he, hr⟩, b1⟩ => ⟨⟨r, he, by
    cases b with
    | true => exact decide_eq_true (hr.2 (hb.2 rfl))
    | false => exact decide_eq_false (fun q => by have := hb.1 (hr.1 q); cases this)⟩, b1⟩
  clear hb
  go_enter Tryz.func33, Tryz.ntmps33
  go_wp2_with fail
  (with_reducible refine hI.mono ?_)
  rintro _ w1 ⟨⟨r, rfl, hd⟩, b1⟩
  go_wp2_with fail
  go_ret
  refine ⟨?_, b1⟩
  first | rfl | rw [← hd]
theorem contains_any {K : Nat → Prop} (A : Option Addr) (c : Nat) (l : List IV) (w : World) (h : Ivs w K A c l) (hl : l.length ≤ 100000) : Calls Tryz.prog 33 #[.slice A l.length c, .func (.func 34) #[] #[]] w fun e w' => e = .returned (.bool (!l.all rightP)) ∧ Below w.heap.size w w' :=
  contains_aux _ A c l w h hl (by cases l.all rightP <;> simp)
end Go.Proofs.YtjebjninlejoeaaGreatDoor
namespace Go.Proofs.YtjebjninlejoeaaGreatDoor
open Go.RowKit Go.Maps Go.ChangeMaps
set_option linter.unusedVariables false
set_option linter.unusedSimpArgs false
set_option linter.unusedSectionVars false
set_option maxRecDepth 100000

theorem bTy : BTy 88 := ⟨by kernel_rfl, by decide⟩
theorem Bd.drew {T : TypeId} {B b : Nat} {l : List UInt8} {w : World} (h : Bd T B b l w) : Bd T B b l w.drew := h.elim (fun x => .inl x.drew) (fun x => .inr x.drew)
theorem Bd.alloc {T : TypeId} {B b : Nat} {l : List UInt8} {w : World} (h : Bd T B b l w) (o : Obj) : Bd T B b l (w.alloc o) := Lib.IsBuilderF.alloc h o
theorem Bd.lt {T : TypeId} {B b : Nat} {l : List UInt8} {w : World} (h : Bd T B b l w) : b < w.heap.size := h.elim (fun x => x.lt) (fun x => x.lt)
theorem atF_below {T e : TypeId} {B b : Nat} {p : Value} {bs : List Value} {w w' : World} (h : Lib.BuilderAtF T e B b p bs w) (hb : Below w.heap.size w w') : Lib.BuilderAtF T e B b p bs w' := by
  have hlt := h.lt
  obtain ⟨hB, v, hv, hown, hne⟩ := h
  refine ⟨hB, v, (hb.block b hlt).trans hv, ⟨hown.1, ?_⟩, hne⟩
  rcases hown.2 with h0 | ⟨g, cap, cur, fz, e1, e2, hg, r⟩
  · exact .inl h0
  · exact .inr ⟨g, cap, cur, fz, e1, e2, (hb.block g (Array.getElem?_eq_some_iff.1 hg).1).trans hg, r⟩
theorem Bd.below {T : TypeId} {B b : Nat} {l : List UInt8} {w w' : World} (h : Bd T B b l w) (hb : Below w.heap.size w w') : Bd T B b l w' := h.elim (fun x => .inl (atF_below x hb)) (fun x => .inr (atF_below x hb))
/-- String, of a builder that nothing was written to. -/
theorem string_nil (b : Nat) (w : World) (h : w.cell? ⟨b, 1, none⟩ = some (.slice none 0 0)) :
    Calls Tryz.prog 37 #[.pointer (some ⟨b, 0, none⟩)] w fun e w' => e = .returned (.string .empty) ∧ Below w.heap.size w w' := by
  have c1 : w.drew.cell? ⟨b, 1, none⟩ = some (.slice none 0 0) := h
  have hSD : (Builtin.unsafeSliceData_ #[49] 171 #[.slice none 0 0]).run Tryz.prog w.drew = .ok (.pointer none) w.drew := Lib.run_unsafeSliceData_nil _ _ _ _ _
  have hUS : (Builtin.unsafeString_ #[171, 3] 9 #[.pointer none, .int .i64 0]).run Tryz.prog w.drew = .ok (.string .empty) w.drew := Lib.run_unsafeString_none _ _ _ _ _
  go_enter Tryz.func37, Tryz.ntmps37
  go_wp2
  go_region
  all_goals (go_wp2; go_ret; exact ⟨rfl, Below.drew (Below.refl _ w)⟩)
theorem show_long (A : Option Addr) (c n : Nat) (h : 4096 < n) (w : World) : Calls Tryz.prog 13 #[.slice A n c] w fun e w' => e = .returned (.tuple #[.string .empty, .int .i64 3]) ∧ Below w.heap.size w w' := by
  have d1 : decide ((4096 : Int) < (n : Int)) = true := decide_eq_true (by omega)
  go_enter Tryz.func13, Tryz.ntmps13
  go_wp2_with fail
  go_ret2
  exact ⟨rfl, Below.refl _ _⟩
theorem show_wrong {K : Nat → Prop} (A : Option Addr) (c : Nat) (l : List IV) (w : World) (hl : l.length ≤ 4096) (h : Ivs w K A c l) (ha : l.all rightP = false) : Calls Tryz.prog 13 #[.slice A l.length c] w fun e w' => e = .returned (.tuple #[.string .empty, .int .i64 4]) ∧ Below w.heap.size w w' := by
  have d1 : decide ((4096 : Int) < (l.length : Int)) = false := decide_eq_false (by omega)
  have hC := contains_aux true A c l w h (by omega) (by rw [ha]; simp)
  clear ha
  go_enter Tryz.func13, Tryz.ntmps13
  go_wp2_with fail
  (with_reducible refine hC.mono ?_)
  rintro _ w1 ⟨rfl, b1⟩
  go_wp2_with fail
  go_ret2
  exact ⟨rfl, b1⟩
theorem showP_take {l : List IV} {k : Nat} {i : IV} (h : l[k]? = some i) : showP (l.take (k + 1)) = showP (l.take k) ++ (showI i ++ [10]) := by
  rw [List.take_add_one, h]
  simp [showP]
set_option maxHeartbeats 2000000 in
theorem show_right {B : Nat} {K : Nat → Prop} (A : Option Addr) (c : Nat) (l : List IV) (w : World) (hl : l.length ≤ 4096) (h : Ivs w K A c l) (ha : l.all rightP = true) (hv : Tv B w) (hB : B ≤ w.heap.size) : Calls Tryz.prog 13 #[.slice A l.length c] w fun e w' => e = .returned (.tuple #[.string ⟨(showP l).toArray⟩, .int .i64 0]) ∧ Below w.heap.size w w' := by
  have d1 : decide ((4096 : Int) < (l.length : Int)) = false := decide_eq_false (by omega)
  have hC := contains_aux false A c l w h (by omega) (by rw [ha]; simp)
  have HA := Lib.hid (List.all_eq_true.1 ha)
  have HV := Lib.hid hv
  have HB := Lib.hid hB
  have HL := Lib.hid hl
  have HI := Lib.hid h
  clear ha hv hB hl h
  go_enter Tryz.func13, Tryz.ntmps13
  go_wp2_with fail
  (with_reducible refine hC.mono ?_)
  rintro _ w1 ⟨rfl, b1⟩
  have HBd : Hid (Bd 88 w.heap.size w1.heap.size (showP (l.take 0)) (w1.alloc (.cells #[.pointer none, .slice none 0 0] 88))) := Lib.hid (.inl ⟨b1.size, .slice none 0 0, heap_alloc_new w1 _, ⟨rfl, .inl ⟨rfl, rfl⟩⟩, by simp [Value.ownBlock]⟩)
  have HBW : Hid (Below w.heap.size w (w1.alloc (.cells #[.pointer none, .slice none 0 0] 88))) := Lib.hid (b1.alloc b1.size _)
  have HZ : Hid ((w1.alloc (.cells #[.pointer none, .slice none 0 0] 88)).cell? ⟨w1.heap.size, 1, none⟩ = some (.slice none 0 0)) := Lib.hid (by rw [Lib.cell_of_heap (heap_alloc_new w1 _)]; rfl)
  go_wp2_with fail
  go_loopw [16] (fun i wr => ∃ k : Nat, k ≤ l.length ∧ i = .int .i64 k ∧ Hid (Bd 88 w.heap.size w1.heap.size (showP (l.take k)) wr) ∧ Hid (Below w.heap.size w wr) ∧ Hid (k = 0 → wr.cell? ⟨w1.heap.size, 1, none⟩ = some (.slice none 0 0))) (fun i _ => l.length - (intOf i).toNat)
  case atStart => exact ⟨0, Nat.zero_le _, rfl, HBd, HBW, Lib.hid fun _ => HZ.out⟩
  case round =>
    obtain ⟨k, hk, rfl, hd, hb, hz⟩ := hrel
    clear HBd HBW HZ
    by_cases hlt : k < l.length
    · have d2 : decide ((k : Int) < (l.length : Int)) = true := decide_eq_true (by omega)
      have hl' := HL.out
      obtain ⟨i, hi⟩ : ∃ i, l[k]? = some i := ⟨l[k], List.getElem?_eq_getElem hlt⟩
      have HN := Lib.hid (showP_take hi)
      have hri := HA.out i (List.mem_of_getElem? hi)
      have HS := Lib.hid (show_len hri)
      have HPL : Hid ((showP (l.take k)).length ≤ 61 * 4096) := Lib.hid (by
        have := showP_len (l.take k) (fun j hj => HA.out j (List.mem_of_mem_take hj))
        have h2 := HL.out
        simp only [List.length_take] at this
        omega)
      obtain ⟨g, o, rfl, c0, c1, c2, c3, c4, c5, c6, c7⟩ := (HI.out.below hb.out).at_ hi
      have q1 : (0 : Int) ≤ (k : Int) := by omega
      have q2 : (k : Int) < (l.length : Int) := by omega
      have hsz := hb.out.size
      have n1 := (Below.refl wr.heap.size wr).alloc (Nat.le_refl _) (.cells #[.int .u8 i.op, .bool i.narrow, .int .i64 i.dst, .int .i64 i.src, .bool i.useImm, .int .i64 i.off, .int .i64 i.imm, .int .i64 i.size] 40)
      obtain ⟨W, hW⟩ : ∃ W, Hid (W = wr.alloc (.cells #[.int .u8 i.op, .bool i.narrow, .int .i64 i.dst, .int .i64 i.src, .bool i.useImm, .int .i64 i.off, .int .i64 i.imm, .int .i64 i.size] 40)) := ⟨_, Lib.hid rfl⟩
      have hw := show_any i hri W (by rw [hW.out]; exact (HV.out.below hb.out HB.out).below n1 (Nat.le_trans HB.out hsz)) (by rw [hW.out]; exact Nat.le_trans (Nat.le_trans HB.out hsz) n1.size)
      have HN1 : Hid (Below wr.heap.size wr W) := Lib.hid (by rw [hW.out]; exact n1)
      rw [hW.out] at hw
      unfold ivV at hw
      clear hri n1
      go_wp2_with fail
      (with_reducible refine hw.mono ?_)
      rintro _ w2 ⟨rfl, b2⟩
      rw [← hW.out] at b2
      have HD2 := Lib.hid ((hd.out.below HN1.out).below b2)
      have HB2 := Lib.hid (hb.out.trans ((HN1.out.trans (b2.mono HN1.out.size)).mono hsz))
      clear hw b2 c0 c1 c2 c3 c4 c5 c6 c7
      have hcat : ((⟨(showI i).toArray⟩ : ByteArray) ++ ⟨#[10]⟩) = ⟨(showI i ++ [10]).toArray⟩ := cat_is (showI i) [10]
      have hcl : ¬ 9223372036854775807 < (showI i).length + 1 := by have := HS.out; omega
      have hW2 := write_any bTy w.heap.size w1.heap.size (showP (l.take k)) (showI i ++ [10]) w2 HD2.out (by have := HS.out; have := HPL.out; simp; omega) HB2.out.size
      go_wp2_with fail
      (with_reducible refine hW2.mono ?_)
      rintro _ w3 ⟨rfl, hd3, hb3, -⟩
      rw [← HN.out] at hd3
      have HD3 := Lib.hid hd3
      have HB3 := Lib.hid (HB2.out.trans hb3)
      clear hd3 hb3 hW2
      go_wp2_with fail
      go_roundw
      case rel => exact ⟨k + 1, by omega, by have := HL.out; go_num, HD3, HB3, Lib.hid fun q => by omega⟩
      case measure => have := HL.out; simp [intOf]; omega
    · have d2 : decide ((k : Int) < (l.length : Int)) = false := decide_eq_false (by omega)
      obtain rfl : k = l.length := by omega
      have HE := Lib.hid (show l.take l.length = l from List.take_length)
      rw [HE.out] at hd
      cases hn : showP l with
      | nil =>
        have h0 : l.length = 0 := by
          cases l with
          | nil => rfl
          | cons i l => simp [showP] at hn
        have hZ := string_nil w1.heap.size wr (hz.out h0)
        have HN0 := Lib.hid hn
        clear hn
        go_wp2_with fail
        (with_reducible refine hZ.mono ?_)
        rintro _ w2 ⟨rfl, b2⟩
        go_wp2_with fail
        go_ret2
        refine ⟨?_, hb.out.trans (b2.mono hb.out.size)⟩
        rw [HN0.out]; rfl
      | cons x y =>
        rw [hn] at hd
        have hZ := string_any bTy w.heap.size w1.heap.size (x :: y) wr hd.out (by simp)
        have HN0 := Lib.hid hn
        clear hn
        go_wp2_with fail
        (with_reducible refine hZ.mono ?_)
        rintro _ w2 ⟨rfl, b2⟩
        go_wp2_with fail
        go_ret2
        refine ⟨?_, hb.out.trans b2⟩
        rw [HN0.out]; rfl
end Go.Proofs.YtjebjninlejoeaaGreatDoor
