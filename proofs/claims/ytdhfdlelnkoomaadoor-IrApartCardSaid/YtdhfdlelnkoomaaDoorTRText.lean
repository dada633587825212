/- The document's Text: over this seat's program. -/
import Derived.Test.YtdhfdlelnkoomaaDoorTText2
import Derived.Deep.RegionLaw
namespace Go.Proofs.YtdhfdlelnkoomaaDoor
open Go.RowKit Go.Lib
set_option linter.unusedVariables false
set_option maxRecDepth 100000

theorem step_append_string {P : Program} {ops : Array Oper} {o : Oper} {a : Act} {w : World} {K : Act → World → Prop} {Q : Exit → Act → World → Prop} {E : Prop} (hgd : o.guard = none) (sl x : Operand) (t u : TypeId)
    (ho : o.op = .call { callee := .builtin .append, args := #[sl, x], argTypes := #[t, u] })
    (base : Nat) (e : TypeId) (i : TypeInfo) (ht : P.underlying t = some (.slice e)) (hu : P.underlying u = some .string) (hi : P.info? e = some i) (hz : i.zero = some (.int .u8 0))
    (hsize : i.size = 1) (hby : i.bytes = 1)
    (v : Value) (n : Nat) (xs : List Value) (hs : a.eval sl = v) (hown : w.ownsRow base e 1 v n xs) (s : ByteArray) (hx : a.eval x = .string s)
    (h63 : n + s.size ≤ maxLen) (hbytes : n + s.size ≤ 140737488355328) (hbase : base ≤ w.heap.size)
    (h : ∀ v' w', w'.ownsRow base e 1 v' (n + s.size) (xs ++ strCells s) → w.grownBy w' v.ownBlock → (v' = .slice none 0 0 ↔ v = .slice none 0 0 ∧ s.size = 0) → K (a.put o.dst v') w') :
    if Region.wanted o (yielded ops a.tmps) = true then Oper.wp P o a w K Q else E := by
  have hw : Region.wanted o (yielded ops a.tmps) = true := by simp [Region.wanted, hgd]
  rw [if_pos hw]
  obtain ⟨v', w', hr, h2, h3, h4⟩ := run_append_own_string (P := P) w base t u o.type e i ht hu hi hz hsize hby v n xs hown s h63 hbytes hbase
  unfold Oper.wp execOp
  simp only [ho, resolve, invoke, builtin, Sem.run_bind, Sem.run_pure, Result.andThen_ok, List.map_toArray, List.map_cons, List.map_nil, hs, hx, hr]
  exact h v' w' h2 h3 h4
theorem own_keep {w w' : World} {base e size n : Nat} {v : Value} {xs : List Value} (h : w.ownsRow base e size v n xs) (hb : Below w.heap.size w w') : w'.ownsRow base e size v n xs :=
  owns_keep h fun g hg => hb.block g (owns_lt h g hg)
/-- An instruction of those that came in, as the walk reads it. -/
def ASt (a : Addr) (k : Nat) (f : Ins) (w' : World) : Prop := w'.cell? (a.add (k * 9)) = some (.int .u8 f.op) ∧ w'.cell? ⟨(a.add (k * 9)).block, (a.add (k * 9)).off + 1, none⟩ = some (.int .u8 f.what) ∧ w'.cell? ⟨(a.add (k * 9)).block, (a.add (k * 9)).off + 2, none⟩ = some (.bool f.nar) ∧ w'.cell? ⟨(a.add (k * 9)).block, (a.add (k * 9)).off + 3, none⟩ = some (.int .i64 f.d) ∧ w'.cell? ⟨(a.add (k * 9)).block, (a.add (k * 9)).off + 4, none⟩ = some (.int .i64 f.a) ∧ w'.cell? ⟨(a.add (k * 9)).block, (a.add (k * 9)).off + 5, none⟩ = some (.int .i64 f.b) ∧ w'.cell? ⟨(a.add (k * 9)).block, (a.add (k * 9)).off + 6, none⟩ = some (.int .u64 f.n) ∧ w'.cell? ⟨(a.add (k * 9)).block, (a.add (k * 9)).off + 7, none⟩ = some (.int .i64 f.size) ∧ w'.cell? ⟨(a.add (k * 9)).block, (a.add (k * 9)).off + 8, none⟩ = some (.int .i64 f.to)
set_option maxHeartbeats 4000000 in
theorem rtext_any (A : Option Addr) (c : Nat) (xs : List Ins) (w : World) (hI : Inss w (fun b => b < w.heap.size) A c xs) (hok : ∀ f ∈ xs, InsOk f) (ht : Tb w.heap.size w) :
    Calls Tryd.prog 11 #[.slice A xs.length c] w fun e w' => e = .returned (.string ⟨(textP xs).toArray⟩) ∧ Below w.heap.size w w' := by
  have HR := rright_any A c xs w hI
  have hcap : xs.length ≤ 9223372036854775807 := by have := hI.2.1; have := hI.2.2.1; unfold maxLen at this; omega
  have HI := Lib.hid hI
  have HT := Lib.hid ht
  have HOK := Lib.hid hok
  clear hI ht hok
  by_cases hr : rightP xs = true
  · have HRR := Lib.hid hr
    have HP := Lib.hid (show textP xs = textUp xs xs.length by rw [textP, if_pos hr])
    rw [hr] at HR
    have HR' := Lib.hid HR
    obtain ⟨i0, hi, hz0, hz1, hz2⟩ := info_parts byteInfo
    have hi := Lib.hid hi
    have hz0 := Lib.hid hz0
    have hz1 := Lib.hid hz1
    have hz2 := Lib.hid hz2
    clear HR hr
    go_enter Tryd.func11, Tryd.ntmps11
    go_wp2_with fail
    refine HR'.out.mono ?_
    rintro _ w1 ⟨rfl, hb1⟩
    have HB1 := Lib.hid hb1
    clear hb1 HR'
    go_wp2_with fail
    go_loopw [3, 4] (fun v' i wr => ∃ (v : Value) (k : Nat), v = v' ∧ k ≤ xs.length ∧ i = .int .i64 k ∧ Hid (wr.ownsRow w.heap.size 5 1 v (textUp xs k).length (Lib.byteCells (textUp xs k))) ∧ Hid (Below w.heap.size w wr)) (fun _ i _ => xs.length - (intOf i).toNat)
    case atStart => exact ⟨_, 0, rfl, Nat.zero_le _, rfl, Lib.hid ⟨rfl, .inl ⟨rfl, rfl⟩⟩, HB1⟩
    case round =>
      obtain ⟨v, k, rfl, hk, rfl, HO, hb⟩ := hrel
      by_cases hlt : k < xs.length
      · have d1 : decide ((k : Int) < (xs.length : Int)) = true := decide_eq_true (by omega)
        obtain ⟨a, f, e', ha, hf, hc⟩ := HI.out.at_ hlt
        subst e'
        have HBw := Lib.hid hb.out.size
        have HTr := Lib.hid (HT.out.keep hb.out)
        have hall : ∀ w', Below w.heap.size w w' → ASt a k f w' := fun w' hw' => flat9 fun j hj => (hw'.cell (p := (a.add (k * 9)).add j) (by rw [add_blk, add_blk]; exact ha)).trans (hc j hj)
        have keepS : Hid (∀ w', Below wr.heap.size wr w' → ASt a k f w') := Lib.hid fun w' hw' => hall w' (hb.out.trans (hw'.mono HBw.out))
        have keepA : Hid (∀ w' w'', Below wr.heap.size wr w' → w'.grownBy w'' v.ownBlock → ASt a k f w'') := Lib.hid fun w' w'' hw' hg => hall w'' ((hb.out.trans (hw'.mono HBw.out)).grown hg (Nat.le_trans HBw.out hw'.size) (fun g hg' => (HO.out.lt g hg').1))
        obtain ⟨e0, e1, e2, e3, e4, e5, e6, e7, e8⟩ := keepS.out wr (Below.refl _ _)
        clear hc hall
        have hkl := Lib.hid (show k ≤ 17000 by have := (right_len HRR.out).2; omega)
        have HLN := Lib.hid (textUp_len HRR.out HOK.out k hk)
        have HTL := Lib.hid (textUp_succ xs k)
        have HFX := Lib.hid (show xs.getD k default = f by rw [List.getD_eq_getElem?_getD, hf.out]; rfl)
        rw [HFX.out] at HTL
        obtain ⟨op, d, aa, b, u, sz, t, HLI⟩ : ∃ op d a b u sz t, Hid (LnI f op d a b u sz t) := by
          obtain ⟨op, d, a, b, u, sz, t, h⟩ := right_ln HRR.out HOK.out hf.out
          exact ⟨op, d, a, b, u, sz, t, Lib.hid h⟩
        have hl1 := itoa_l k hkl.out
        have hl2 := insT_len HLI.out
        have g1 : ¬ (9223372036854775807 < (Lib.itoa (k : Int)).length + 2) := by omega
        have g2 : ¬ (9223372036854775807 < (Lib.itoa (k : Int)).length + 2 + (insT f).length) := by omega
        have g3 : ¬ (9223372036854775807 < (Lib.itoa (k : Int)).length + 2 + (insT f).length + 1) := by omega
        have HSZ : Hid ((((({ data := (Lib.itoa (k : Int)).toArray } : ByteArray) ++ { data := #[58, 32] }) ++ { data := (insT f).toArray }) ++ { data := #[10] }).size = (Lib.itoa (k : Int)).length + 2 + (insT f).length + 1) := Lib.hid (by simp only [mk_app, ByteArray.size, List.size_toArray, List.length_append, List.length_cons, List.length_nil])
        have HAL := Lib.hid (show (textUp xs k).length + ((Lib.itoa (k : Int)).length + 2 + (insT f).length + 1) ≤ 100000000 by have := HLN.out; have := hkl.out; omega)
        have HNE : Hid (Lib.byteCells (textUp xs k) ++ Lib.strCells (((({ data := (Lib.itoa (k : Int)).toArray } : ByteArray) ++ { data := #[58, 32] }) ++ { data := (insT f).toArray }) ++ { data := #[10] }) = Lib.byteCells (textUp xs (k + 1)) ∧ (textUp xs k).length + ((Lib.itoa (k : Int)).length + 2 + (insT f).length + 1) = (textUp xs (k + 1)).length) := Lib.hid (by
          rw [HTL.out]
          constructor
          · simp only [mk_app, strCells_bytes]
            simp [Lib.byteCells]
          · simp; omega)
        have hbl : (a.add (k * 9)).block < wr.heap.size := by rw [add_blk]; have := HBw.out; omega
        have hi0' : (0 : Int) ≤ (k : Int) := by omega
        have hi1' : (k : Int) < (xs.length : Int) := by omega
        clear HFX hl1 hl2
        go_wp2_with fail
        refine wp_region_held_drew (S := fun w' => w'.cell? (a.add (k * 9)) = some (.int .u8 f.op) ∧ w'.cell? ⟨(a.add (k * 9)).block, (a.add (k * 9)).off + 1, none⟩ = some (.int .u8 f.what) ∧ w'.cell? ⟨(a.add (k * 9)).block, (a.add (k * 9)).off + 2, none⟩ = some (.bool f.nar) ∧ w'.cell? ⟨(a.add (k * 9)).block, (a.add (k * 9)).off + 3, none⟩ = some (.int .i64 f.d) ∧ w'.cell? ⟨(a.add (k * 9)).block, (a.add (k * 9)).off + 4, none⟩ = some (.int .i64 f.a) ∧ w'.cell? ⟨(a.add (k * 9)).block, (a.add (k * 9)).off + 5, none⟩ = some (.int .i64 f.b) ∧ w'.cell? ⟨(a.add (k * 9)).block, (a.add (k * 9)).off + 6, none⟩ = some (.int .u64 f.n) ∧ w'.cell? ⟨(a.add (k * 9)).block, (a.add (k * 9)).off + 7, none⟩ = some (.int .i64 f.size) ∧ w'.cell? ⟨(a.add (k * 9)).block, (a.add (k * 9)).off + 8, none⟩ = some (.int .i64 f.to)) (by kernel_rfl) (keepS.out _ ((Below.refl _ _).drew)) (fun hS => ?_)
        refine wpAnyH_take (i := 0) (v := ?_) rfl (by kernel_rfl) (by kernel_rfl) (by kernel_rfl) (fun _ _ _ h => h) (Or.inl ⟨by rfl, ?_⟩) hS ?_
        rotate_left 1
        · intro w' hSw
          go_simp <;> with_reducible rfl
        try simp only [List.getElem_toArray, List.getElem_cons_zero, Act.put, List.setIfInBounds_toArray, List.set_cons_zero, List.set_cons_succ]
        refine wpAnyH_take (i := 1) (v := ?_) rfl (by kernel_rfl) (by kernel_rfl) (by kernel_rfl) (fun _ _ _ h => h) (Or.inl ⟨by rfl, ?_⟩) hS ?_
        rotate_left 1
        · intro w' hSw
          go_simp <;> with_reducible rfl
        try simp only [List.getElem_toArray, List.getElem_cons_zero, List.getElem_cons_succ, Act.put, List.setIfInBounds_toArray, List.set_cons_zero, List.set_cons_succ]
        refine wpAnyH_take (i := 4) (v := ?_) rfl (by kernel_rfl) (by kernel_rfl) (by kernel_rfl) (fun _ _ _ h => h) (Or.inl ⟨by rfl, ?_⟩) hS ?_
        rotate_left 1
        · intro w' hSw
          go_simp <;> with_reducible rfl
        try simp only [List.getElem_toArray, List.getElem_cons_zero, List.getElem_cons_succ, Act.put, List.setIfInBounds_toArray, List.set_cons_zero, List.set_cons_succ]
        refine wpAnyH_take (i := 5) (v := ?_) rfl (by kernel_rfl) (by kernel_rfl) (by kernel_rfl) (fun _ _ _ h => h) (Or.inl ⟨by rfl, ?_⟩) hS ?_
        rotate_left 1
        · intro w' hSw
          go_simp <;> with_reducible rfl
        try simp only [List.getElem_toArray, List.getElem_cons_zero, List.getElem_cons_succ, Act.put, List.setIfInBounds_toArray, List.set_cons_zero, List.set_cons_succ]
        refine wpAnyH_take (i := 6) (v := ?_) rfl (by kernel_rfl) (by kernel_rfl) (by kernel_rfl) (fun _ _ _ h => h) (Or.inl ⟨by rfl, ?_⟩) hS ?_
        rotate_left 1
        · intro w' hSw
          go_simp <;> with_reducible rfl
        try simp only [List.getElem_toArray, List.getElem_cons_zero, List.getElem_cons_succ, Act.put, List.setIfInBounds_toArray, List.set_cons_zero, List.set_cons_succ]
        refine wpAnyH_take (i := 7) (v := ?_) rfl (by kernel_rfl) (by kernel_rfl) (by kernel_rfl) (fun _ _ _ h => h) (Or.inl ⟨by rfl, ?_⟩) hS ?_
        rotate_left 1
        · intro w' hSw
          go_simp <;> with_reducible rfl
        try simp only [List.getElem_toArray, List.getElem_cons_zero, List.getElem_cons_succ, Act.put, List.setIfInBounds_toArray, List.set_cons_zero, List.set_cons_succ]
        refine wpAnyH_ready (rs := [2]) (by kernel_rfl) (by simp) (AllReadyH.cons rfl (fun K hK => ?_) AllReadyH.nil)
        go_simp
        refine (itoaN_any k hkl.out wr.drew HTr.out.drew).mono ?_
        rintro _ w2 ⟨rfl, hb'⟩
        have hbx : Below wr.heap.size wr w2 := ((Below.refl wr.heap.size wr).drew).trans hb'
        go_simp
        refine hK.out _ _ (keepS.out _ hbx) (fun hS => ?_)
        clear hK K
        have HB2 := Lib.hid hbx
        have HT2 := Lib.hid (HTr.out.keep' hbx HBw.out)
        have HBw2 := Lib.hid (Nat.le_trans HBw.out hbx.size)
        clear hbx hb'
        try simp only [List.getElem_toArray, List.getElem_cons_zero, List.getElem_cons_succ, Act.put, List.setIfInBounds_toArray, List.set_cons_zero, List.set_cons_succ]
        refine wpAnyH_take (i := 3) (v := ?_) rfl (by kernel_rfl) (by kernel_rfl) (by kernel_rfl) (fun _ _ _ h => h) (Or.inl ⟨by rfl, ?_⟩) hS ?_
        rotate_left 1
        · intro w' hSw
          go_simp <;> with_reducible rfl
        try simp only [List.getElem_toArray, List.getElem_cons_zero, List.getElem_cons_succ, Act.put, List.setIfInBounds_toArray, List.set_cons_zero, List.set_cons_succ]
        refine wpAnyH_ready (rs := [8]) (by kernel_rfl) (by simp) (AllReadyH.cons rfl (fun K hK => ?_) AllReadyH.nil)
        go_simp
        refine (rline_any HLI.out w2 HT2.out HBw2.out).mono ?_
        rintro _ w3 ⟨rfl, hb'⟩
        have hbx : Below wr.heap.size wr w3 := HB2.out.trans (hb'.mono HB2.out.size)
        go_simp
        refine hK.out _ _ (keepS.out _ hbx) (fun hS => ?_)
        clear hK K
        have HB3 := Lib.hid hbx
        clear hbx hb'
        try simp only [List.getElem_toArray, List.getElem_cons_zero, List.getElem_cons_succ, Act.put, List.setIfInBounds_toArray, List.set_cons_zero, List.set_cons_succ]
        refine wpAnyH_take (i := 9) (v := ?_) rfl (by kernel_rfl) (by kernel_rfl) (by kernel_rfl) (fun _ _ _ h => h) (Or.inl ⟨by rfl, ?_⟩) hS ?_
        rotate_left 1
        · intro w' hSw
          go_simp <;> with_reducible rfl
        try simp only [List.getElem_toArray, List.getElem_cons_zero, List.getElem_cons_succ, Act.put, List.setIfInBounds_toArray, List.set_cons_zero, List.set_cons_succ]
        refine wpAnyH_take (i := 10) (v := ?_) rfl (by kernel_rfl) (by kernel_rfl) (by kernel_rfl) (fun _ _ _ h => h) (Or.inl ⟨by rfl, ?_⟩) hS ?_
        rotate_left 1
        · intro w' hSw
          go_simp <;> with_reducible rfl
        try simp only [List.getElem_toArray, List.getElem_cons_zero, List.getElem_cons_succ, Act.put, List.setIfInBounds_toArray, List.set_cons_zero, List.set_cons_succ]
        refine wpAnyH_ready (rs := [11]) (by kernel_rfl) (by simp) (AllReadyH.cons rfl (fun K hK => ?_) AllReadyH.nil)
        refine step_append_string rfl _ _ 50 9 rfl w.heap.size 5 i0 Tryd.underlying50 Tryd.underlying9 hi.out hz0.out hz1.out hz2.out _ _ _ rfl (own_keep HO.out HB3.out) _ rfl ?c3 ?c4 ?c5 ?_
        case c3 => have := HAL.out; unfold maxLen; rw [HSZ.out]; omega
        case c4 => have := HAL.out; rw [HSZ.out]; omega
        case c5 => exact Nat.le_trans HBw.out HB3.out.size
        intro v' w4 hown' hgrow _
        refine hK.out _ _ (keepA.out w3 w4 HB3.out hgrow) (fun hS => ?_)
        clear hK K
        have HO4 := Lib.hid hown'
        have HG4 := Lib.hid hgrow
        clear hown' hgrow
        try simp only [List.getElem_toArray, List.getElem_cons_zero, List.getElem_cons_succ, Act.put, List.setIfInBounds_toArray, List.set_cons_zero, List.set_cons_succ]
        refine wpAnyH_take (i := 12) (v := ?_) rfl (by kernel_rfl) (by kernel_rfl) (by kernel_rfl) (fun _ _ _ h => h) (Or.inl ⟨by rfl, ?_⟩) hS ?_
        rotate_left 1
        · intro w' hSw
          go_simp <;> with_reducible rfl
        try simp only [List.getElem_toArray, List.getElem_cons_zero, List.getElem_cons_succ, Act.put, List.setIfInBounds_toArray, List.set_cons_zero, List.set_cons_succ]
        refine wpAnyH_done (by kernel_rfl) ?_ _
        go_wp2_with fail
        go_roundw
        case rel => exact ⟨_, k + 1, rfl, by omega, by go_num, Lib.hid (by have h := HO4.out; rw [HSZ.out, HNE.out.1, HNE.out.2] at h; exact h), Lib.hid ((hb.out.trans (HB3.out.mono HBw.out)).grown HG4.out (Nat.le_trans HBw.out HB3.out.size) (fun g hg' => (HO.out.lt g hg').1))⟩
        case measure => simp [intOf]; omega
      · have d1 : decide ((k : Int) < (xs.length : Int)) = false := decide_eq_false (by omega)
        obtain rfl : k = xs.length := by omega
        have HNE : Hid ((textUp xs xs.length).length ≠ 0) := Lib.hid (by
          have h1 := (right_len HRR.out).1
          obtain ⟨m, hm⟩ : ∃ m, xs.length = m + 1 := ⟨xs.length - 1, by omega⟩
          rw [hm, textUp_succ]; simp)
        have hcv : (convert 50 9 v).run Tryd.prog wr = .ok (.string ⟨(textUp xs xs.length).toArray⟩) wr := by
          have ho := HO.out
          rcases ho.2 with ⟨_, hz⟩ | ⟨g, cap, cur, hv, _⟩
          · exact absurd hz HNE.out
          · have hcells := ho.cells (g := g) (by rw [hv]; rfl)
            rw [hv]
            refine run_convert_bytes_back (P := Tryd.prog) wr 50 9 5 ⟨g, 0, none⟩ cap (textUp xs xs.length) Tryd.underlying50 Tryd.underlying5 Tryd.underlying9 (fun j hj => ?_)
            have := hcells j (.int .u8 ((textUp xs xs.length)[j]).toNat) (by simp [Lib.byteCells, hj])
            simpa [Lib.add_plain] using this
        go_wp2_with fail
        go_ret
        exact ⟨by rw [HP.out]; rfl, hb.out⟩
  · have hr' : rightP xs = false := by simpa using hr
    have HP := Lib.hid (show textP xs = [] by rw [textP, if_neg hr])
    rw [hr'] at HR
    have HR' := Lib.hid HR
    clear HR hr hr'
    go_enter Tryd.func11, Tryd.ntmps11
    go_wp2_with fail
    refine HR'.out.mono ?_
    rintro _ w1 ⟨rfl, hb1⟩
    go_wp2_with fail
    go_ret
    exact ⟨by rw [HP.out]; rfl, hb1⟩
end Go.Proofs.YtdhfdlelnkoomaaDoor
