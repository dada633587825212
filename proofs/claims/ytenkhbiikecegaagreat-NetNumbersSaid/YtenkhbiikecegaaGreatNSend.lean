/- net: Send. -/
import Derived.Test.YtenkhbiikecegaaGreatNPut
namespace Go.Proofs.YtenkhbiikecegaaGreat
open Go.RowKit Go.Maps Go.ChangeMaps
set_option linter.unusedVariables false
set_option linter.unusedSimpArgs false
set_option maxRecDepth 100000

theorem Nw.of {st : NSt} {w w' : World} (h : Below w.heap.size w w') : Nw st w w' := ⟨h.os, h.tape, h.output, h.size, fun k k1 _ => h.block k k1⟩
theorem Nw.after {st : NSt} {w w1 w' : World} (h : Below w.heap.size w w1) (h' : Nw st w1 w') : Nw st w w' :=
  ⟨h'.os.trans h.os, h'.tape.trans h.tape, h'.output.trans h.output, Nat.le_trans h.size h'.size, fun k k1 k2 => (h'.block k (Nat.lt_of_lt_of_le k1 h.size) k2).trans (h.block k k1)⟩
theorem Nw.trans {st st1 : NSt} {w w1 w' : World} (h : Nw st w w1) (h' : Nw st1 w1 w') (ho : ∀ k, NOwn st1 k → NOwn st k ∨ w.heap.size ≤ k) : Nw st w w' :=
  ⟨h'.os.trans h.os, h'.tape.trans h.tape, h'.output.trans h.output, Nat.le_trans h.size h'.size, fun k k1 k2 => (h'.block k (Nat.lt_of_lt_of_le k1 h.size) (fun q => (ho k q).elim k2 (fun q => by omega))).trans (h.block k k1 k2)⟩
theorem NetAt.heap_ {w w' : World} {K : Nat → Prop} {N : Nat} {st : NSt} (h : NetAt w K N st) (e : w'.heap = w.heap) : NetAt w' K N st :=
  h.keep (by rw [e]) (fun _ _ => by rw [e]) (fun _ _ _ => by rw [e]) (by rw [e]; exact Nat.le_refl _) (fun _ k _ => k)
/-- What Send answers. -/
def sendE (st : NSt) (a b : Int) (l : List Int) : Int := if 262144 < l.length then 3 else if 64 ≤ (sig st a b).length then 5 else 0
set_option maxHeartbeats 1000000 in
theorem Send_any {K_ KP : Nat → Prop} {N : Nat} {st : NSt} (a b : Int) (ha : I64 a) (hb : I64 b) (A : Option Addr) (c : Nat) (l : List Int) (w : World) (h : NetAt w K_ N st) (hl : Rd w KP A c (u8s l)) (hKP : ∀ k, KP k → k < w.heap.size) :
    Calls Tryz.prog 15 #[.pointer (some ⟨N, 0, none⟩), .int .i64 a, .int .i64 b, .slice A l.length c] w fun e w' => e = .returned (.int .i64 (sendE st a b l)) ∧ ∃ st', NetAt w' (fun k => K_ k ∨ w.heap.size ≤ k) N st' ∧
      (∃ p : PV, p.l = l ∧ ∀ x y, sig st' x y = if a = x ∧ b = y ∧ sendE st a b l = 0 then sig st a b ++ [p] else sig st x y) ∧ (∀ k, NOwn st' k → NOwn st k ∨ w.heap.size ≤ k) ∧ Nw st w w' := by
  have kn := fun W hW => known_any N st.m W hW
  go_enter Tryz.func15, Tryz.ntmps15
  go_wp2_with fail
  have hbA : Below w.heap.size w (w.alloc (Obj.cells #[Value.int IntKind.i64 a, Value.int IntKind.i64 b] 58)) := (Below.refl _ _).alloc (Nat.le_refl _) _
  have hbx : Bk (w.alloc (Obj.cells #[Value.int IntKind.i64 a, Value.int IntKind.i64 b] 58)) w.heap.size 58 [Value.int IntKind.i64 a, Value.int IntKind.i64 b] := Bk.new w _ _
  have hws : w.heap.size < (w.alloc (Obj.cells #[Value.int IntKind.i64 a, Value.int IntKind.i64 b] 58)).heap.size := by simp
  generalize (w.alloc (Obj.cells #[Value.int IntKind.i64 a, Value.int IntKind.i64 b] 58)) = wa at *
  have hn1 : NetAt wa K_ N st := h.below hbA
  have hr1 : Rd wa KP A c (u8s l) := hl.keep (fun k hk => hbA.block k (hKP k hk)) (fun _ q => q)
  refine (kn wa hn1.net).mono ?_
  rintro _ w_ ⟨rfl, rfl⟩
  by_cases h1 : 262144 < l.length
  · have d1 : decide ((262144 : Int) < (l.length : Int)) = true := decide_eq_true (by omega)
    have he : sendE st a b l = 3 := by simp [sendE, h1]
    go_wp2_with fail
    go_ret
    exact ⟨by rw [he]; rfl, st, hn1.mono (fun _ q _ => .inl q), ⟨⟨none, 0, l⟩, rfl, fun x y => by simp [he]⟩, fun k q => .inl q, Nw.of hbA⟩
  have d1 : decide ((262144 : Int) < (l.length : Int)) = false := decide_eq_false (by omega)
  go_wp2_with fail
  have hB : ∀ w', Below wa.heap.size wa w' → (w'.cell? ⟨w.heap.size, 0, none⟩ = some (.int .i64 a) ∧ w'.cell? ⟨w.heap.size, 1, none⟩ = some (.int .i64 b)) := by
    intro w' hw'
    have q2 := (hbx.below hw' hbx.lt).cell 0
    have q3 := (hbx.below hw' hbx.lt).cell 1
    exact ⟨by simpa using q2, by simpa using q3⟩
  refine wp_region_held_drew (S := (fun w' => w'.cell? ⟨w.heap.size, 0, none⟩ = some (.int .i64 a) ∧ w'.cell? ⟨w.heap.size, 1, none⟩ = some (.int .i64 b))) (by kernel_rfl) (hB _ (Below.refl _ _).drew) (fun hS => ?_)
  refine wpAnyH_take (i := 0) (v := ?_) rfl (by kernel_rfl) (by kernel_rfl) (by kernel_rfl) (fun _ _ _ h => h) (Or.inl ⟨by rfl, ?_⟩) hS ?_
  rotate_left 1
  · intro w' hSw
    go_simp <;> with_reducible rfl
  try simp only [List.getElem_toArray, List.getElem_cons_zero, List.getElem_cons_succ, Act.put, List.setIfInBounds_toArray, List.set_cons_zero, List.set_cons_succ]
  refine wpAnyH_take (i := 1) (v := ?_) rfl (by kernel_rfl) (by kernel_rfl) (by kernel_rfl) (fun _ _ _ h => h) (Or.inl ⟨by rfl, ?_⟩) hS ?_
  rotate_left 1
  · intro w' hSw
    go_simp <;> with_reducible rfl
  try simp only [List.getElem_toArray, List.getElem_cons_zero, List.getElem_cons_succ, Act.put, List.setIfInBounds_toArray, List.set_cons_zero, List.set_cons_succ]
  refine wpAnyH_take (i := 2) (v := ?_) rfl (by kernel_rfl) (by kernel_rfl) (by kernel_rfl) (fun _ _ _ h => h) (Or.inl ⟨by rfl, ?_⟩) hS ?_
  rotate_left 1
  · intro w' hSw
    go_simp <;> with_reducible rfl
  try simp only [List.getElem_toArray, List.getElem_cons_zero, List.getElem_cons_succ, Act.put, List.setIfInBounds_toArray, List.set_cons_zero, List.set_cons_succ]
  refine wpAnyH_take (i := 3) (v := ?_) rfl (by kernel_rfl) (by kernel_rfl) (by kernel_rfl) (fun _ _ _ h => h) (Or.inl ⟨by rfl, ?_⟩) hS ?_
  rotate_left 1
  · intro w' hSw
    go_simp <;> with_reducible rfl
  try simp only [List.getElem_toArray, List.getElem_cons_zero, List.getElem_cons_succ, Act.put, List.setIfInBounds_toArray, List.set_cons_zero, List.set_cons_succ]
  refine wpAnyH_ready (rs := [4]) (by kernel_rfl) (by simp) (AllReadyH.cons rfl (fun K hK => ?_) AllReadyH.nil)
  go_simp
  go_at_call 37
  refine (full_any a b ha hb _ (hn1.heap_ (w' := wa.drew) rfl)).mono ?_
  rintro _ w2 ⟨rfl, hb2⟩
  have hb2' : Below wa.heap.size wa w2 := (Below.refl _ _).drew.trans hb2
  go_simp
  refine hK _ _ (hB _ hb2') (fun hS => ?_)
  clear hK K
  try simp only [List.getElem_toArray, List.getElem_cons_zero, List.getElem_cons_succ, Act.put, List.setIfInBounds_toArray, List.set_cons_zero, List.set_cons_succ]
  refine wpAnyH_take (i := 5) (v := ?_) rfl (by kernel_rfl) (by kernel_rfl) (by kernel_rfl) (fun _ _ _ h => h) (Or.inl ⟨by rfl, ?_⟩) hS ?_
  rotate_left 1
  · intro w' hSw
    go_simp <;> with_reducible rfl
  try simp only [List.getElem_toArray, List.getElem_cons_zero, List.getElem_cons_succ, Act.put, List.setIfInBounds_toArray, List.set_cons_zero, List.set_cons_succ]
  refine wpAnyH_done (by kernel_rfl) ?_ _
  by_cases h2 : 64 ≤ (sig st a b).length
  · have he : sendE st a b l = 5 := by simp [sendE, h1, h2]
    have d2 : decide (64 ≤ (sig st a b).length) = true := decide_eq_true h2
    rw [d2]
    go_wp2_with fail
    go_ret
    exact ⟨by rw [he]; rfl, st, (hn1.below hb2').mono (fun _ q _ => .inl q), ⟨⟨none, 0, l⟩, rfl, fun x y => by simp [he]⟩, fun k q => .inl q, Nw.of (hbA.trans (hb2'.mono hbA.size))⟩
  have d2 : decide (64 ≤ (sig st a b).length) = false := decide_eq_false h2
  rw [d2]
  have he : sendE st a b l = 0 := by simp [sendE, h1, h2]
  have hn2 := hn1.below hb2'
  have hr2 : Rd w2.drew KP A c (u8s l) := hr1.keep (fun k hk => hb2'.block k (Nat.lt_of_lt_of_le (hKP k hk) hbA.size)) (fun _ q => q)
  have hB5 : ∀ w5, Nw st w2.drew w5 → (w5.cell? ⟨w.heap.size, 0, none⟩ = some (.int .i64 a) ∧ w5.cell? ⟨w.heap.size, 1, none⟩ = some (.int .i64 b)) := by
    intro w5 q
    have hq := q.block w.heap.size (Nat.lt_of_lt_of_le hws hb2'.size) (fun e => absurd (h.olt e) (Nat.lt_irrefl _))
    exact ⟨(World.cell?_of_block hq).trans hS.1, (World.cell?_of_block hq).trans hS.2⟩
  go_wp2_with fail
  refine wp_region_held_drew (S := (fun w' => w'.cell? ⟨w.heap.size, 0, none⟩ = some (.int .i64 a) ∧ w'.cell? ⟨w.heap.size, 1, none⟩ = some (.int .i64 b))) (by kernel_rfl) (hB w2.drew hb2'.drew) (fun hS => ?_)
  refine wpAnyH_take (i := 0) (v := ?_) rfl (by kernel_rfl) (by kernel_rfl) (by kernel_rfl) (fun _ _ _ h => h) (Or.inl ⟨by rfl, ?_⟩) hS ?_
  rotate_left 1
  · intro w' hSw
    go_simp <;> with_reducible rfl
  try simp only [List.getElem_toArray, List.getElem_cons_zero, List.getElem_cons_succ, Act.put, List.setIfInBounds_toArray, List.set_cons_zero, List.set_cons_succ]
  refine wpAnyH_take (i := 1) (v := ?_) rfl (by kernel_rfl) (by kernel_rfl) (by kernel_rfl) (fun _ _ _ h => h) (Or.inl ⟨by rfl, ?_⟩) hS ?_
  rotate_left 1
  · intro w' hSw
    go_simp <;> with_reducible rfl
  try simp only [List.getElem_toArray, List.getElem_cons_zero, List.getElem_cons_succ, Act.put, List.setIfInBounds_toArray, List.set_cons_zero, List.set_cons_succ]
  refine wpAnyH_take (i := 2) (v := ?_) rfl (by kernel_rfl) (by kernel_rfl) (by kernel_rfl) (fun _ _ _ h => h) (Or.inl ⟨by rfl, ?_⟩) hS ?_
  rotate_left 1
  · intro w' hSw
    go_simp <;> with_reducible rfl
  try simp only [List.getElem_toArray, List.getElem_cons_zero, List.getElem_cons_succ, Act.put, List.setIfInBounds_toArray, List.set_cons_zero, List.set_cons_succ]
  refine wpAnyH_take (i := 3) (v := ?_) rfl (by kernel_rfl) (by kernel_rfl) (by kernel_rfl) (fun _ _ _ h => h) (Or.inl ⟨by rfl, ?_⟩) hS ?_
  rotate_left 1
  · intro w' hSw
    go_simp <;> with_reducible rfl
  try simp only [List.getElem_toArray, List.getElem_cons_zero, List.getElem_cons_succ, Act.put, List.setIfInBounds_toArray, List.set_cons_zero, List.set_cons_succ]
  refine wpAnyH_take (i := 4) (v := ?_) rfl (by kernel_rfl) (by kernel_rfl) (by kernel_rfl) (fun _ _ _ h => h) (Or.inl ⟨by rfl, ?_⟩) hS ?_
  rotate_left 1
  · intro w' hSw
    go_simp <;> with_reducible rfl
  try simp only [List.getElem_toArray, List.getElem_cons_zero, List.getElem_cons_succ, Act.put, List.setIfInBounds_toArray, List.set_cons_zero, List.set_cons_succ]
  refine wpAnyH_ready (rs := [5]) (by kernel_rfl) (by simp) (AllReadyH.cons rfl (fun K hK => ?_) AllReadyH.nil)
  go_simp
  go_at_call 38
  refine (put_any a b ha hb A c l w2.drew (hn2.heap_ (w' := w2.drew) rfl) hr2 (fun k hk => Nat.lt_of_lt_of_le (hKP k hk) (Nat.le_trans hbA.size hb2'.size)) (by omega) (by omega)).mono ?_
  rintro _ w5 ⟨⟨r9, rfl⟩, st', p, hp, f1, f2, f3, f4⟩
  go_simp
  refine hK _ _ (hB5 w5 f4) (fun hS => ?_)
  clear hK K
  try simp only [List.getElem_toArray, List.getElem_cons_zero, List.getElem_cons_succ, Act.put, List.setIfInBounds_toArray, List.set_cons_zero, List.set_cons_succ]
  refine wpAnyH_done (by kernel_rfl) ?_ _
  go_wp2_with fail
  go_ret
  have hs1 := hbA.size
  have hs2 := hb2'.size
  have hsd : w2.drew.heap.size = w2.heap.size := rfl
  refine ⟨by rw [he]; rfl, st', f1.mono (fun k q _ => q.imp id (fun q => by omega)), ⟨p, hp, fun x y => by rw [f2]; simp [he]⟩, fun k q => (f3 k q).imp id (fun q => by omega), Nw.after ((hbA.trans (hb2'.mono hbA.size)).drew) f4⟩
end Go.Proofs.YtenkhbiikecegaaGreat
