/- slices.Delete of one element of a row of one-cell elements. -/
import Derived.Test.YtenkhbiikecegaaGreatNSend
namespace Go.Proofs.YtenkhbiikecegaaGreat
open Go.RowKit Go.Maps Go.ChangeMaps
set_option linter.unusedVariables false
set_option linter.unusedSimpArgs false
set_option maxRecDepth 100000

section
variable {P : Program} {w : World}
theorem step_append_room {ops : Array Oper} {o : Oper} {a : Act} {K : Act → World → Prop} {Q : Exit → Act → World → Prop} {E : Prop} (hgd : o.guard = none) (s x : Operand) (t : TypeId)
    (ho : o.op = .call { callee := .builtin .append, args := #[s, x], argTypes := #[t, t] })
    (e : TypeId) (i : TypeInfo) (ht : P.underlying t = some (.slice e)) (hi : P.info? e = some i)
    (g n c : Nat) (cur : Array Value) (hg : w.heap[g]? = some (.cells cur e (0, 0))) (ad : Addr) (m c' : Nat) (news : List Value)
    (hs : a.eval s = .slice (some ⟨g, 0, none⟩) n c) (hx : a.eval x = .slice (some ad) m c') (hl : news.length = m * i.size) (hnews : ∀ j u, news[j]? = some u → w.cell? (ad.add j) = some u) (h1 : ∀ u ∈ news, u.oneCell' = true)
    (hroom : n + m ≤ c) (hfit : n * i.size + news.length ≤ cur.size)
    (h : K (a.put o.dst (.slice (some ⟨g, 0, none⟩) (n + m) c)) (w.setRow g (cur.toList.take (n * i.size) ++ news ++ cur.toList.drop (n * i.size + news.length)).toArray)) :
    if Region.wanted o (yielded ops a.tmps) = true then Oper.wp P o a w K Q else E := by
  have hw : Region.wanted o (yielded ops a.tmps) = true := by simp [Region.wanted, hgd]
  rw [if_pos hw]
  have hr := run_append_room (P := P) w t o.type e i ht hi g n c cur hg ad m c' news hl hnews h1 hroom hfit
  unfold Oper.wp execOp
  simp only [ho, resolve, invoke, builtin, Sem.run_bind, Sem.run_pure, Result.andThen_ok, List.map_toArray, List.map_cons, List.map_nil, hs, hx, hr]
  exact h
end
theorem Delete_any (g c k : Nat) (xs : List Value) (w : World) (h : RowX w 28 (some ⟨g, 0, none⟩) c g xs) (hk : k < xs.length) (h1 : ∀ u ∈ xs, u.oneCell' = true) :
    Calls Tryz.prog 71 #[.slice (some ⟨g, 0, none⟩) xs.length c, .int .i64 k, .int .i64 (k + 1)] w fun e w' => e = .returned (.slice (some ⟨g, 0, none⟩) (xs.length - 1) c) ∧ RowX w' 28 (some ⟨g, 0, none⟩) c g (xs.eraseIdx k) ∧
      w'.os = w.os ∧ w'.tape = w.tape ∧ w'.output = w.output ∧ w'.heap.size = w.heap.size ∧ ∀ b, b ≠ g → w'.heap[b]? = w.heap[b]? := by
  obtain ⟨hm, ext, hb, hc⟩ : c ≤ maxLen ∧ ∃ ext, Bk w g 28 (xs ++ ext) ∧ (xs ++ ext).length = c := by
    rcases h with ⟨q, _⟩ | ⟨_, q, r⟩
    · cases q
    · exact ⟨q, r⟩
  have hlc : xs.length ≤ c := by simp at hc; omega
  have hmx : c ≤ 9223372036854775807 := by unfold maxLen at hm; omega
  have d1 : decide ((k : Int) = (k : Int) + 1) = false := decide_eq_false (by omega)
  obtain ⟨i0, hi, hz, hz1, hz2⟩ := info_parts info29
  obtain ⟨ad, had, hnew⟩ : ∃ ad, (if c = k + 1 then some (⟨g, 0, none⟩ : Addr) else some ⟨g, k + 1, none⟩) = some ad ∧ ∀ j u, (xs.drop (k + 1))[j]? = some u → w.drew.cell? (ad.add j) = some u := by
    by_cases hck : c = k + 1
    · refine ⟨_, if_pos hck, fun j u hu => ?_⟩
      have hd : xs.drop (k + 1) = [] := List.drop_eq_nil_of_le (Nat.le_trans hlc (Nat.le_of_eq hck))
      rw [hd] at hu
      cases hu
    · refine ⟨_, if_neg hck, fun j u hu => ?_⟩
      rw [List.getElem?_drop] at hu
      have hadd : (⟨g, k + 1, none⟩ : Addr).add j = ⟨g, k + 1 + j, none⟩ := by unfold Addr.add; split <;> simp_all
      rw [hadd, hb.drew.cell]
      rw [List.getElem?_append_left (List.getElem?_eq_some_iff.1 hu).1]
      exact hu
  have hlen1 : k + (xs.length - (k + 1)) = xs.length - 1 := by omega
  have hlist : ((xs ++ ext).toArray.toList.take (k * i0.size) ++ xs.drop (k + 1) ++ (xs ++ ext).toArray.toList.drop (k * i0.size + (xs.drop (k + 1)).length)) = xs.eraseIdx k ++ (xs.drop (xs.length - 1) ++ ext) := by
    rw [hz1, Nat.mul_one, List.eraseIdx_eq_take_drop_succ, List.take_append_of_le_length (by omega), List.append_assoc, List.append_assoc, List.length_drop, hlen1, List.drop_append_of_le_length (by omega)]
  go_enter Tryz.func71, Tryz.ntmps71
  go_wp2_with fail
  refine wp_region_held_drew (S := fun w' => True) (by kernel_rfl) trivial (fun hS => ?_)
  refine wpAnyH_take (i := 0) (v := ?_) rfl (by kernel_rfl) (by kernel_rfl) (by kernel_rfl) (fun _ _ _ h => h) (Or.inl ⟨by rfl, ?_⟩) hS ?_
  rotate_left 1
  · intro w' hSw
    go_simp <;> with_reducible rfl
  try simp only [List.getElem_toArray, List.getElem_cons_zero, List.getElem_cons_succ, Act.put, List.setIfInBounds_toArray, List.set_cons_zero, List.set_cons_succ]
  refine wpAnyH_take (i := 1) (v := ?_) rfl (by kernel_rfl) (by kernel_rfl) (by kernel_rfl) (fun _ _ _ h => h) (Or.inl ⟨by rfl, ?_⟩) hS ?_
  rotate_left 1
  · intro w' hSw
    go_simp <;> with_reducible rfl
  try simp only [List.getElem_toArray, List.getElem_cons_zero, List.getElem_cons_succ, Act.put, List.setIfInBounds_toArray, List.set_cons_zero, List.set_cons_succ]
  refine wpAnyH_take (i := 2) (v := ?_) rfl (by kernel_rfl) (by kernel_rfl) (by kernel_rfl) (fun _ _ _ h => h) (Or.inl ⟨by rfl, ?_⟩) hS ?_
  rotate_left 1
  · intro w' hSw
    go_simp; rw [if_pos (by omega : k ≤ c)]
  try simp only [List.getElem_toArray, List.getElem_cons_zero, List.getElem_cons_succ, Act.put, List.setIfInBounds_toArray, List.set_cons_zero, List.set_cons_succ]
  refine wpAnyH_take (i := 3) (v := ?_) rfl (by kernel_rfl) (by kernel_rfl) (by kernel_rfl) (fun _ _ _ h => h) (Or.inl ⟨by rfl, ?_⟩) hS ?_
  rotate_left 1
  · intro w' hSw
    go_simp <;> with_reducible rfl
  try simp only [List.getElem_toArray, List.getElem_cons_zero, List.getElem_cons_succ, Act.put, List.setIfInBounds_toArray, List.set_cons_zero, List.set_cons_succ]
  refine wpAnyH_take (i := 4) (v := ?_) rfl (by kernel_rfl) (by kernel_rfl) (by kernel_rfl) (fun _ _ _ h => h) (Or.inl ⟨by rfl, ?_⟩) hS ?_
  rotate_left 1
  · intro w' hSw
    go_simp <;> with_reducible rfl
  try simp only [List.getElem_toArray, List.getElem_cons_zero, List.getElem_cons_succ, Act.put, List.setIfInBounds_toArray, List.set_cons_zero, List.set_cons_succ]
  refine wpAnyH_take (i := 5) (v := ?_) rfl (by kernel_rfl) (by kernel_rfl) (by kernel_rfl) (fun _ _ _ h => h) (Or.inl ⟨by rfl, ?_⟩) hS ?_
  rotate_left 1
  · intro w' hSw
    go_simp; rw [if_pos (show (0 : Int) ≤ (k : Int) + 1 ∧ (k : Int) + 1 ≤ (xs.length : Int) from ⟨by omega, by omega⟩)]
  try simp only [List.getElem_toArray, List.getElem_cons_zero, List.getElem_cons_succ, Act.put, List.setIfInBounds_toArray, List.set_cons_zero, List.set_cons_succ]
  refine wpAnyH_ready (rs := [6]) (by kernel_rfl) (by simp) (AllReadyH.cons rfl (fun K hK => ?_) AllReadyH.nil)
  try rw [had]
  refine step_append_room (by rfl) (.tmp 22) (.tmp 25) 27 (by rfl) 28 i0 Tryz.underlying27 hi g k c (xs ++ ext).toArray (hb.drew) ad (xs.length - (k + 1)) (c - (k + 1)) (xs.drop (k + 1)) (by rfl) (by rfl) (by rw [hz1]; simp) hnew (fun u hu => h1 u (List.mem_of_mem_drop hu)) (by omega) (by rw [hz1]; simp; omega) ?_
  rw [hlist, hlen1]
  refine hK _ _ trivial (fun hS => ?_)
  clear hK K
  try simp only [List.getElem_toArray, List.getElem_cons_zero, List.getElem_cons_succ, Act.put, List.setIfInBounds_toArray, List.set_cons_zero, List.set_cons_succ]
  refine wpAnyH_take (i := 7) (v := ?_) rfl (by kernel_rfl) (by kernel_rfl) (by kernel_rfl) (fun _ _ _ h => h) (Or.inl ⟨by rfl, ?_⟩) hS ?_
  rotate_left 1
  · intro w' hSw
    go_simp <;> with_reducible rfl
  try simp only [List.getElem_toArray, List.getElem_cons_zero, List.getElem_cons_succ, Act.put, List.setIfInBounds_toArray, List.set_cons_zero, List.set_cons_succ]
  refine wpAnyH_done (by kernel_rfl) ?_ _
  obtain ⟨y, hy⟩ : ∃ y, xs.drop (xs.length - 1) = [y] := by
    have hl1 : (xs.drop (xs.length - 1)).length = 1 := by rw [List.length_drop]; omega
    exact List.length_eq_one_iff.1 hl1
  have hb2 : Bk (w.drew.setRow g (xs.eraseIdx k ++ (xs.drop (xs.length - 1) ++ ext)).toArray) g 28 (xs.eraseIdx k ++ (xs.drop (xs.length - 1) ++ ext)) := setRow_heap w.drew g (xs ++ ext).toArray _ 28 (0, 0) hb
  have ho2 : (w.drew.setRow g (xs.eraseIdx k ++ (xs.drop (xs.length - 1) ++ ext)).toArray).os = w.os ∧ (w.drew.setRow g (xs.eraseIdx k ++ (xs.drop (xs.length - 1) ++ ext)).toArray).tape = w.tape ∧ (w.drew.setRow g (xs.eraseIdx k ++ (xs.drop (xs.length - 1) ++ ext)).toArray).output = w.output ∧ (w.drew.setRow g (xs.eraseIdx k ++ (xs.drop (xs.length - 1) ++ ext)).toArray).heap.size = w.heap.size := ⟨rfl, rfl, rfl, by simp⟩
  have hf2 : ∀ b, b ≠ g → (w.drew.setRow g (xs.eraseIdx k ++ (xs.drop (xs.length - 1) ++ ext)).toArray).heap[b]? = w.heap[b]? := fun b hb' => setRow_other w.drew g b _ hb'
  generalize (w.drew.setRow g (xs.eraseIdx k ++ (xs.drop (xs.length - 1) ++ ext)).toArray) = w2 at *
  rw [hy] at hb2
  have hlast : (xs.eraseIdx k).length = xs.length - 1 := by rw [List.length_eraseIdx_of_lt hk]
  have hcl : (Builtin.clear_ #[27] 0 #[.slice (some ⟨g, xs.length - 1, none⟩) (xs.length - (xs.length - 1)) (c - (xs.length - 1))]).run Tryz.prog w2 = .ok (.tuple #[]) (w2.setCell ⟨g, xs.length - 1, none⟩ (.slice none 0 0)) := by
    have e1 : xs.length - (xs.length - 1) = 1 := by omega
    rw [e1]
    refine Lib.run_clear_slice w2 27 28 0 (.slice none 0 0) Tryz.underlying27 (fun w => by kernel_rfl) rfl rfl g (xs.length - 1) 1 (c - (xs.length - 1)) (by omega) (fun j hj => ?_) (fun j hj => hb2.frozen _)
    obtain rfl : j = 0 := by omega
    rw [hb2.cell, Nat.add_zero, List.getElem?_append_right (by omega), hlast]
    simp
  have hb3 := hb2.set (xs.length - 1) (.slice none 0 0)
  have hset : (xs.eraseIdx k ++ ([y] ++ ext)).set (xs.length - 1) (.slice none 0 0) = xs.eraseIdx k ++ (.slice none 0 0 :: ext) := by
    rw [List.set_append_right _ _ (by omega), hlast, Nat.sub_self]
    rfl
  rw [hset] at hb3
  go_wp2_with fail
  go_ret
  refine ⟨rfl, .inr ⟨rfl, hm, _, hb3, ?_⟩, ho2.1, ho2.2.1, ho2.2.2.1, ?_, fun b hb' => (Below.heap_setCell _ _ _ _ hb').trans (hf2 b hb')⟩
  · simp only [List.length_append, List.length_cons] at hc ⊢
    omega
  · rw [← ho2.2.2.2]; simp [World.setCell]
end Go.Proofs.YtenkhbiikecegaaGreat
