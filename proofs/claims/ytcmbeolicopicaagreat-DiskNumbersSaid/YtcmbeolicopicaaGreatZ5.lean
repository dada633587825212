/- disk: Rename. disk: Rename, whole. -/
import Derived.Test.YtcmbeolicopicaaGreatZ4
namespace Go.Proofs.YtcmbeolicopicaaGreat
open Go.RowKit Go.Maps Go.ChangeMaps
set_option linter.unusedVariables false
set_option linter.unusedSimpArgs false
set_option maxRecDepth 100000

/-- The map alone was turned: a file more, which lies apart. -/
theorem DskAt.pushSep {w w' : World} {D : Nat} {st : DSt} (h : DskAt w D st) {f' : DF} (hno : ∀ f ∈ st.fs, f.s ≠ f'.s) (hf : FAt w' f') (hsep : ∀ f ∈ st.fs, FSep f f') (hk : ∀ k, k < w.heap.size → k ≠ st.m → w'.heap[k]? = w.heap[k]?) (hs : w.heap.size ≤ w'.heap.size)
    (hm : ∀ (es : List MapEntry) (ck : Nat), w.heap[st.m]? = some (.map es.toArray ck) → w'.heap[st.m]? = some (.map (es ++ [({ key := nmV f'.s, val := f'.val, born := ck } : MapEntry)]).toArray (ck + 1))) :
    DskAt w' D ⟨st.m, st.room, st.fs ++ [f']⟩ := by
  obtain ⟨es, ck, h1, h2, h3⟩ := h.map
  obtain ⟨l, hl⟩ := nmKey f'.s (by have := hf.sl; unfold maxLen; omega)
  refine ⟨(hk D h.dsk.lt (fun e => h.notOwn (.inl e))).trans h.dsk, ⟨_, _, hm es ck h1, h2.push hl (ent_none h3 hno) _, by simp [h3]⟩, fun x hx => ?_, ?_⟩
  · rcases List.mem_append.1 hx with hx | hx
    · exact (h.file x hx).keep (hk _ (h.file x hx).bk.lt (h.mg hx)) (fun b hb => hk b ((h.file x hx).dlt hb) (fun e => h.md hx (e ▸ hb))) hs
    · simp at hx; rw [hx]; exact hf
  · refine List.pairwise_append.2 ⟨h.apart, List.pairwise_singleton _ _, fun x hx y hy => ?_⟩
    simp at hy
    subst hy
    exact hsep x hx
/-- .. another file for one of this name. -/
theorem DskAt.replSep {w w' : World} {D : Nat} {st : DSt} (h : DskAt w D st) {j : Nat} {f f' : DF} (hj : st.fs[j]? = some f) (e1 : f'.s = f.s) (hf : FAt w' f') (hsep : ∀ i x, i ≠ j → st.fs[i]? = some x → FSep x f') (hk : ∀ k, k < w.heap.size → k ≠ st.m → w'.heap[k]? = w.heap[k]?) (hs : w.heap.size ≤ w'.heap.size)
    (hm : ∀ (es : List MapEntry) (ck : Nat) (x : MapEntry), w.heap[st.m]? = some (.map es.toArray ck) → es[j]? = some x → w'.heap[st.m]? = some (.map (es.set j { x with val := f'.val }).toArray ck)) :
    DskAt w' D ⟨st.m, st.room, st.fs.set j f'⟩ := by
  obtain ⟨es, ck, h1, h2, h3⟩ := h.map
  obtain ⟨e, he, k1, k2⟩ := ent_at h3 hj
  refine ⟨(hk D h.dsk.lt (fun e => h.notOwn (.inl e))).trans h.dsk, ⟨_, _, hm es ck e h1 he, h2.set he _, ?_⟩, fun x hx => ?_, ?_⟩
  · refine List.ext_getElem? fun i => ?_
    have h3i := congrArg (fun l => l[i]?) h3
    simp only [List.getElem?_map] at h3i
    rw [List.getElem?_map, List.getElem?_map, List.getElem?_set, List.getElem?_set]
    by_cases hi : j = i
    · subst hi
      rw [if_pos rfl, if_pos rfl, if_pos (List.getElem?_eq_some_iff.1 hj).1, if_pos (List.getElem?_eq_some_iff.1 he).1]
      simp [k1, e1]
    · rw [if_neg hi, if_neg hi]
      exact h3i
  · obtain ⟨i, hi⟩ := List.mem_iff_getElem?.1 hx
    rw [List.getElem?_set] at hi
    by_cases hij : j = i
    · subst hij
      rw [if_pos rfl, if_pos (List.getElem?_eq_some_iff.1 hj).1] at hi
      injection hi with hi
      rw [← hi]; exact hf
    · rw [if_neg hij] at hi
      have hxm := List.mem_of_getElem? hi
      exact (h.file x hxm).keep (hk _ (h.file x hxm).bk.lt (h.mg hxm)) (fun b hb => hk b ((h.file x hxm).dlt hb) (fun e => h.md hxm (e ▸ hb))) hs
  · rw [List.pairwise_iff_getElem]
    intro a b ha hb hab
    simp at ha hb
    rw [List.getElem_set, List.getElem_set]
    split
    · next q =>
      rw [if_neg (by omega)]
      exact (hsep b _ (by omega) (List.getElem?_eq_getElem hb)).symm
    · next q =>
      split
      · next q' => exact hsep a _ (by omega) (List.getElem?_eq_getElem ha)
      · exact List.pairwise_iff_getElem.1 h.apart a b ha hb hab
section
variable {B : Nat → Prop} {D n : Nat} {room : Int} {L : List FE} {st : DSt} {w w' : World}
/-- A file that lay apart is put under a name. -/
theorem DBs.putSep (h : DBs B D room L n st w) {f' : DF} (hsl : f'.s.length ≤ 24) (hsep : ∀ f ∈ st.fs, FSep f f') (hf : ∀ W' : World, MapTo st.m w W' → FAt W' f') (hB : ∀ k, f'.g = k ∨ f'.dv.ownBlock = some k → B k) (hn : L.length + 1 ≤ n) (W : World) (hW : W.heap = w.heap ∧ W.os = w.os ∧ W.tape = w.tape ∧ W.output = w.output) :
    ∃ W', (Instr.mapUpdate 46 (.map (some st.m)) (nmV f'.s) f'.val).run Tryz.prog W = .ok () W' ∧ MapTo st.m W W' ∧ (∃ st', DBs B D room (putF L f'.fe) n st' W') ∧ Lv B w W' := by
  have hmL : B st.m := h.own _ (.inl rfl)
  obtain ⟨hW1, hW2, hW3, hW4⟩ := hW
  have hs : f'.s.length ≤ 1000000 := by omega
  have hkB : ∀ {W' : World}, MapTo st.m W W' → MapTo st.m w W' := fun q => ⟨q.os.trans hW2, q.tape.trans hW3, q.output.trans hW4, by rw [q.size, hW1], fun k hk => by rw [q.far k hk, hW1]⟩
  have hown : ∀ (fs' : List DF), (∀ x ∈ fs', x ∈ st.fs ∨ x = f') → ∀ k, DOwn ⟨st.m, st.room, fs'⟩ k → B k := by
    intro fs' hx k q
    rcases q with rfl | ⟨x, hx', q⟩
    · exact hmL
    · rcases hx x hx' with hx' | rfl
      · exact h.own k (.inr ⟨x, hx', q⟩)
      · exact hB k q
  have hL2 := h.perm.length_eq
  rw [List.length_map] at hL2
  have hlenL : ∀ x ∈ putF L f'.fe, FAt w f' → x.l.length ≤ 8388608 ∧ x.n ≤ x.l.length ∧ x.s.length ≤ 24 := by
    intro x hx hf0
    rcases mem_putF.1 hx with rfl | ⟨hx, _⟩
    · exact ⟨hf0.len, hf0.nl, hf0.sl⟩
    · exact h.len x hx
  have hf0 : FAt w f' := hf w ⟨rfl, rfl, rfl, rfl, fun _ _ => rfl⟩
  cases e : fdD st f'.s with
  | none =>
    obtain ⟨W', hr, hmt, hm⟩ := (h.heap_ hW1).put_new f'.s hs (fdD_none e) f'.val W rfl
    have hq := hkB hmt
    have hd := h.dsk.pushSep (w' := W') (fdD_none e) (hf W' hq) hsep (fun k _ k2 => hq.far k k2) (Nat.le_of_eq hq.size.symm) (fun es ck he => hm es ck (by rw [hW1]; exact he))
    have hp : ((st.fs ++ [f']).map DF.fe).Perm (putF L f'.fe) := by
      rw [List.map_append]
      exact perm_push h.dsk.dis h.srt h.perm (g := f'.fe) (fun x hx => by obtain ⟨f, hf, rfl⟩ := List.mem_map.1 hx; exact fdD_none e f hf)
    have hpl := hp.length_eq
    rw [List.length_map, List.length_append, List.length_singleton] at hpl
    exact ⟨W', hr, hmt, ⟨_, hd, h.room, hp, srt_putF h.srt _, hown _ (fun x hx => by rcases List.mem_append.1 hx with hx | hx; exact .inl hx; exact .inr (by simpa using hx)), h.hD, fun j q => by rw [hq.size]; exact h.lt j q, by omega, h.nn, fun x hx => hlenL x hx hf0⟩, hq.lv hmL⟩
  | some f =>
    obtain ⟨hmem, hfs⟩ := fdD_some e
    obtain ⟨j, hj⟩ := List.mem_iff_getElem?.1 hmem
    obtain ⟨W', hr, hmt, hm⟩ := (h.heap_ hW1).put_old f'.s hs e hj f'.val W rfl
    have hq := hkB hmt
    have hd := h.dsk.replSep (w' := W') hj hfs.symm (hf W' hq) (fun i x _ hx => hsep x (List.mem_of_getElem? hx)) (fun k _ k2 => hq.far k k2) (Nat.le_of_eq hq.size.symm) (fun es ck x he hx => hm es ck x (by rw [hW1]; exact he) hx)
    have hmm : (st.fs.map DF.fe)[j]? = some f.fe := by rw [List.getElem?_map, hj]; rfl
    have hp : ((st.fs.set j f').map DF.fe).Perm (putF L f'.fe) := by
      rw [show (st.fs.set j f').map DF.fe = (st.fs.map DF.fe).set j f'.fe by rw [List.map_set]]
      exact perm_set h.dsk.dis h.srt h.perm hmm hfs.symm
    have hpl := hp.length_eq
    rw [List.length_map, List.length_set] at hpl
    exact ⟨W', hr, hmt, ⟨_, hd, h.room, hp, srt_putF h.srt _, hown _ (fun x hx => List.mem_or_eq_of_mem_set hx), h.hD, fun j q => by rw [hq.size]; exact h.lt j q, by omega, h.nn, fun x hx => hlenL x hx hf0⟩, hq.lv hmL⟩
end
section
variable {B : Nat → Prop} {D n : Nat} {room : Int} {L : List FE} {st : DSt} {W : World} (h : DBs B D room L n st W) (s t : Nm) (hs : s.length ≤ 1000000) (ht : t.length ≤ 24)
include h hs ht
theorem rename1 {f : DF} {j bd bf bt : Nat} (e : fdD st s = some f) (hj : st.fs[j]? = some f) (hd : Bk W bd 23 [.pointer (some ⟨D, 0, none⟩)]) (hf : Bk W bf 9 [nmV s]) (hn : Bk W bt 9 [nmV t]) :
    Calls Tryz.prog 56 #[f.val, .pointer (some ⟨bd, 0, none⟩), .pointer (some ⟨bf, 0, none⟩), .pointer (some ⟨bt, 0, none⟩)] W fun e w' => e = .returned (.int .i64 0) ∧ (∃ st', DBs B D room (putF (delF L s) ⟨t, f.l, f.n⟩) n st' w') ∧ Lv B W w' := by
  have c0 := h.dsk.dsk.cell 0
  have b0 := hd.cell 0
  have f0 := hf.cell 0
  have n0 := hn.cell 0
  simp only [List.getElem?_cons_zero] at c0 b0 f0 n0
  obtain ⟨W', hdel, hmt, hmm⟩ := h.del s hs e hj 0 W.drew rfl
  have hmem := List.mem_of_getElem? hj
  have hfin := h.eraseF (w' := W') hj (fun k _ k2 => hmt.far k k2) (Nat.le_of_eq hmt.size.symm) ⟨hmt.os, hmt.tape, hmt.output⟩ hmm
  rw [(fdD_some e).2] at hfin
  obtain ⟨h2, hv⟩ := hfin
  have hne : ∀ {k t cs}, Bk W k t cs → k ≠ st.m := by
    rintro k t cs hk rfl
    obtain ⟨es, ck, q, _⟩ := h.dsk.map
    rw [hk] at q; cases q
  have hFW := h.dsk.file f hmem
  have hsepE : ∀ x ∈ st.fs.eraseIdx j, FSep x f := by
    intro x hx
    rw [List.mem_eraseIdx_iff_getElem?] at hx
    obtain ⟨i, hi, hx⟩ := hx
    exact h.dsk.sep hx hj hi
  have hlenE : (delF L s).length + 1 ≤ n := by
    have h3 := h2.perm.length_eq
    rw [List.length_map] at h3
    have h4 : (st.fs.eraseIdx j).length + 1 = st.fs.length := by
      have := (List.getElem?_eq_some_iff.1 hj).1
      rw [List.length_eraseIdx_of_lt this]; omega
    have h5 := h.perm.length_eq
    rw [List.length_map] at h5
    have := h.few
    simp only at h3
    omega
  have hkeepF : ∀ {X Y : World}, (∀ k, k ≠ st.m → Y.heap[k]? = X.heap[k]?) → Y.heap.size = X.heap.size → FAt X f → FAt Y f := fun hk hs' hx => hx.keep (hk _ (h.dsk.mg hmem)) (fun b hb => hk b (fun e => h.dsk.md hmem (e ▸ hb))) (Nat.le_of_eq hs'.symm)
  have hF' : FAt W' f := hkeepF (X := W.drew) (fun k hk => hmt.far k hk) hmt.size (hFW.keep (w' := W.drew) rfl (fun _ _ => rfl) (Nat.le_refl _))
  have hF2 : ∀ W2 : World, MapTo st.m W' W2 → FAt W2 ⟨t, f.g, f.A, f.c, f.l, f.n⟩ := fun W2 q => by
    have := hkeepF (fun k hk => q.far k hk) q.size hF'
    exact ⟨this.bk, this.dat, this.len, this.nl, ht⟩
  obtain ⟨W2, hput, hmt2, hdb2, hv2⟩ := h2.putSep (f' := ⟨t, f.g, f.A, f.c, f.l, f.n⟩) ht (fun x hx => hsepE x hx) hF2 (fun k q => h.own k (.inr ⟨f, hmem, q⟩)) hlenE W'.drew ⟨rfl, rfl, rfl, rfl⟩
  have hS' : W'.cell? ⟨bd, 0, none⟩ = some (.pointer (some ⟨D, 0, none⟩)) ∧ W'.cell? ⟨bf, 0, none⟩ = some (nmV s) ∧ W'.cell? ⟨bt, 0, none⟩ = some (nmV t) ∧ W'.cell? ⟨D, 0, none⟩ = some (.map (some st.m)) := ⟨(World.cell?_of_block (hmt.far bd (hne hd))).trans b0, (World.cell?_of_block (hmt.far bf (hne hf))).trans f0, (World.cell?_of_block (hmt.far bt (hne hn))).trans n0, (World.cell?_of_block (hmt.far D (hne h.dsk.dsk))).trans c0⟩
  have hS2 : W2.cell? ⟨bd, 0, none⟩ = some (.pointer (some ⟨D, 0, none⟩)) ∧ W2.cell? ⟨bf, 0, none⟩ = some (nmV s) ∧ W2.cell? ⟨bt, 0, none⟩ = some (nmV t) ∧ W2.cell? ⟨D, 0, none⟩ = some (.map (some st.m)) := ⟨(World.cell?_of_block (hmt2.far bd (hne hd))).trans hS'.1, (World.cell?_of_block (hmt2.far bf (hne hf))).trans hS'.2.1, (World.cell?_of_block (hmt2.far bt (hne hn))).trans hS'.2.2.1, (World.cell?_of_block (hmt2.far D (hne h.dsk.dsk))).trans hS'.2.2.2⟩
  have HF := Lib.hid (And.intro hdb2 (hv.trans hv2 (fun _ q => .inl q)))
  clear hdb2 hv2 hmm hmt hmt2 hv h2 hF' hF2 hsepE hkeepF hlenE
  unfold DF.val at *
  unfold nmV at *
  go_enter Tryz.func56, Tryz.ntmps56
  go_wp2_with fail
  refine wp_region_held_drew (S := fun w' => w'.cell? ⟨bd, 0, none⟩ = some (.pointer (some ⟨D, 0, none⟩)) ∧ w'.cell? ⟨bf, 0, none⟩ = some (.string ⟨s.toArray⟩) ∧ w'.cell? ⟨bt, 0, none⟩ = some (.string ⟨t.toArray⟩) ∧ w'.cell? ⟨D, 0, none⟩ = some (.map (some st.m))) (by kernel_rfl) ⟨by simpa using b0, by simpa using f0, by simpa using n0, by simpa using c0⟩ (fun hS => ?_)
  refine wpAnyH_take (i := 0) (v := ?_) rfl (by kernel_rfl) (by kernel_rfl) (by kernel_rfl) (fun _ _ _ h => h) (Or.inl ⟨by rfl, ?_⟩) hS ?_
  rotate_left 1
  · intro w' hSw
    go_simp <;> with_reducible rfl
  try simp only [List.getElem_toArray, List.getElem_cons_zero, List.getElem_cons_succ, Act.put, List.setIfInBounds_toArray, List.set_cons_zero, List.set_cons_succ]
  refine wpAnyH_take (i := 1) (v := ?_) rfl (by kernel_rfl) (by kernel_rfl) (by kernel_rfl) (fun _ _ _ h => h) (Or.inl ⟨by rfl, ?_⟩) hS ?_
  rotate_left 1
  · intro w' hSw
    go_simp <;> with_reducible rfl
  try simp only [List.getElem_toArray, List.getElem_cons_zero, List.getElem_cons_succ, Act.put, List.setIfInBounds_toArray, List.set_cons_zero, List.set_cons_succ]
  refine wpAnyH_take (i := 2) (v := ?_) rfl (by kernel_rfl) (by kernel_rfl) (by kernel_rfl) (fun _ _ _ h => h) (Or.inl ⟨by rfl, ?_⟩) hS ?_
  rotate_left 1
  · intro w' hSw
    go_simp <;> with_reducible rfl
  try simp only [List.getElem_toArray, List.getElem_cons_zero, List.getElem_cons_succ, Act.put, List.setIfInBounds_toArray, List.set_cons_zero, List.set_cons_succ]
  refine wpAnyH_take (i := 3) (v := ?_) rfl (by kernel_rfl) (by kernel_rfl) (by kernel_rfl) (fun _ _ _ h => h) (Or.inl ⟨by rfl, ?_⟩) hS ?_
  rotate_left 1
  · intro w' hSw
    go_simp <;> with_reducible rfl
  try simp only [List.getElem_toArray, List.getElem_cons_zero, List.getElem_cons_succ, Act.put, List.setIfInBounds_toArray, List.set_cons_zero, List.set_cons_succ]
  refine wpAnyH_take (i := 4) (v := ?_) rfl (by kernel_rfl) (by kernel_rfl) (by kernel_rfl) (fun _ _ _ h => h) (Or.inl ⟨by rfl, ?_⟩) hS ?_
  rotate_left 1
  · intro w' hSw
    go_simp <;> with_reducible rfl
  try simp only [List.getElem_toArray, List.getElem_cons_zero, List.getElem_cons_succ, Act.put, List.setIfInBounds_toArray, List.set_cons_zero, List.set_cons_succ]
  refine wpAnyH_take (i := 5) (v := ?_) rfl (by kernel_rfl) (by kernel_rfl) (by kernel_rfl) (fun _ _ _ h => h) (Or.inl ⟨by rfl, ?_⟩) hS ?_
  rotate_left 1
  · intro w' hSw
    go_simp <;> with_reducible rfl
  try simp only [List.getElem_toArray, List.getElem_cons_zero, List.getElem_cons_succ, Act.put, List.setIfInBounds_toArray, List.set_cons_zero, List.set_cons_succ]
  refine wpAnyH_ready (rs := [6]) (by kernel_rfl) (by simp) (AllReadyH.cons rfl (fun K hK => ?_) AllReadyH.nil)
  refine step_del (by rfl) 46 9 (.tmp 10) (.tmp 11) (by rfl) (by rfl) (by rfl) hdel ?_
  refine hK _ _ hS' (fun hS => ?_)
  clear hK K
  try simp only [List.getElem_toArray, List.getElem_cons_zero, List.getElem_cons_succ, Act.put, List.setIfInBounds_toArray, List.set_cons_zero, List.set_cons_succ]
  refine wpAnyH_done (by kernel_rfl) ?_ _
  go_wp2_with fail
  refine wp_region_held_drew (S := fun w' => w'.cell? ⟨bd, 0, none⟩ = some (.pointer (some ⟨D, 0, none⟩)) ∧ w'.cell? ⟨bf, 0, none⟩ = some (.string ⟨s.toArray⟩) ∧ w'.cell? ⟨bt, 0, none⟩ = some (.string ⟨t.toArray⟩) ∧ w'.cell? ⟨D, 0, none⟩ = some (.map (some st.m))) (by kernel_rfl) ⟨by simpa using hS'.1, by simpa using hS'.2.1, by simpa using hS'.2.2.1, by simpa using hS'.2.2.2⟩ (fun hS => ?_)
  refine wpAnyH_take (i := 0) (v := ?_) rfl (by kernel_rfl) (by kernel_rfl) (by kernel_rfl) (fun _ _ _ h => h) (Or.inl ⟨by rfl, ?_⟩) hS ?_
  rotate_left 1
  · intro w' hSw
    go_simp <;> with_reducible rfl
  try simp only [List.getElem_toArray, List.getElem_cons_zero, List.getElem_cons_succ, Act.put, List.setIfInBounds_toArray, List.set_cons_zero, List.set_cons_succ]
  refine wpAnyH_take (i := 1) (v := ?_) rfl (by kernel_rfl) (by kernel_rfl) (by kernel_rfl) (fun _ _ _ h => h) (Or.inl ⟨by rfl, ?_⟩) hS ?_
  rotate_left 1
  · intro w' hSw
    go_simp <;> with_reducible rfl
  try simp only [List.getElem_toArray, List.getElem_cons_zero, List.getElem_cons_succ, Act.put, List.setIfInBounds_toArray, List.set_cons_zero, List.set_cons_succ]
  refine wpAnyH_take (i := 2) (v := ?_) rfl (by kernel_rfl) (by kernel_rfl) (by kernel_rfl) (fun _ _ _ h => h) (Or.inl ⟨by rfl, ?_⟩) hS ?_
  rotate_left 1
  · intro w' hSw
    go_simp <;> with_reducible rfl
  try simp only [List.getElem_toArray, List.getElem_cons_zero, List.getElem_cons_succ, Act.put, List.setIfInBounds_toArray, List.set_cons_zero, List.set_cons_succ]
  refine wpAnyH_take (i := 3) (v := ?_) rfl (by kernel_rfl) (by kernel_rfl) (by kernel_rfl) (fun _ _ _ h => h) (Or.inl ⟨by rfl, ?_⟩) hS ?_
  rotate_left 1
  · intro w' hSw
    go_simp <;> with_reducible rfl
  try simp only [List.getElem_toArray, List.getElem_cons_zero, List.getElem_cons_succ, Act.put, List.setIfInBounds_toArray, List.set_cons_zero, List.set_cons_succ]
  refine wpAnyH_take (i := 4) (v := ?_) rfl (by kernel_rfl) (by kernel_rfl) (by kernel_rfl) (fun _ _ _ h => h) (Or.inl ⟨by rfl, ?_⟩) hS ?_
  rotate_left 1
  · intro w' hSw
    go_simp <;> with_reducible rfl
  try simp only [List.getElem_toArray, List.getElem_cons_zero, List.getElem_cons_succ, Act.put, List.setIfInBounds_toArray, List.set_cons_zero, List.set_cons_succ]
  refine wpAnyH_take (i := 5) (v := ?_) rfl (by kernel_rfl) (by kernel_rfl) (by kernel_rfl) (fun _ _ _ h => h) (Or.inl ⟨by rfl, ?_⟩) hS ?_
  rotate_left 1
  · intro w' hSw
    go_simp <;> with_reducible rfl
  try simp only [List.getElem_toArray, List.getElem_cons_zero, List.getElem_cons_succ, Act.put, List.setIfInBounds_toArray, List.set_cons_zero, List.set_cons_succ]
  refine wpAnyH_take (i := 6) (v := ?_) rfl (by kernel_rfl) (by kernel_rfl) (by kernel_rfl) (fun _ _ _ h => h) (Or.inl ⟨by rfl, ?_⟩) hS ?_
  rotate_left 1
  · intro w' hSw
    go_simp <;> with_reducible rfl
  try simp only [List.getElem_toArray, List.getElem_cons_zero, List.getElem_cons_succ, Act.put, List.setIfInBounds_toArray, List.set_cons_zero, List.set_cons_succ]
  refine wpAnyH_ready (rs := [7]) (by kernel_rfl) (by simp) (AllReadyH.cons rfl (fun K hK => ?_) AllReadyH.nil)
  refine step_upd (by rfl) 46 (.tmp 16) (.tmp 17) (.tmp 18) (by rfl) (by rfl) (by rfl) (by rfl) hput ?_
  refine hK _ _ hS2 (fun hS => ?_)
  clear hK K
  try simp only [List.getElem_toArray, List.getElem_cons_zero, List.getElem_cons_succ, Act.put, List.setIfInBounds_toArray, List.set_cons_zero, List.set_cons_succ]
  refine wpAnyH_done (by kernel_rfl) ?_ _
  go_wp2_with fail
  go_ret
  exact ⟨rfl, HF.out⟩
end
end Go.Proofs.YtcmbeolicopicaaGreat
namespace Go.Proofs.YtcmbeolicopicaaGreat
open Go.RowKit Go.Maps Go.ChangeMaps
set_option linter.unusedVariables false
set_option linter.unusedSimpArgs false
set_option maxRecDepth 100000

section
variable {B : Nat → Prop} {D n : Nat} {room : Int} {L : List FE} {st : DSt} {W : World} (h : DBs B D room L n st W) (s t : Nm) (hs : s.length ≤ 1000000) (ht : t.length ≤ 24)
include h hs ht
theorem rename_with {f : DF} {j bd bf bt : Nat} (e : fdD st s = some f) (hj : st.fs[j]? = some f) (hd : Bk W bd 23 [.pointer (some ⟨D, 0, none⟩)]) (hf : Bk W bf 9 [nmV s]) (hn : Bk W bt 9 [nmV t]) :
    Calls Tryz.prog 21 #[.pointer (some ⟨D, 0, none⟩), nmV s, .func (.func 56) #[] #[.pointer (some ⟨bd, 0, none⟩), .pointer (some ⟨bf, 0, none⟩), .pointer (some ⟨bt, 0, none⟩)]] W fun e w' => e = .returned (.int .i64 0) ∧ (∃ st', DBs B D room (putF (delF L s) ⟨t, f.l, f.n⟩) n st' w') ∧ Lv B W w' := by
  have hcl := rename1 h s t hs ht e hj hd hf hn
  have hl := h.look s hs W rfl
  rw [e] at hl
  unfold lookV at hl
  have hk := known_any D st.m _ W h.dsk.dsk
  have c0 := h.dsk.dsk.cell 0
  simp only [List.getElem?_cons_zero] at c0
  unfold DF.val at hl hcl
  unfold nmV at *
  go_enter Tryz.func21, Tryz.ntmps21
  go_wp2_with fail
  (with_reducible refine hk.mono ?_)
  rintro _ _ ⟨rfl, rfl⟩
  clear hk
  go_wp2_with fail
  (with_reducible refine hcl.mono ?_)
  rintro _ w2 ⟨rfl, hb⟩
  clear hcl hl
  go_wp2_with fail
  go_ret
  exact ⟨rfl, hb⟩
end
/-- The boxes of a call. -/
structure Boxes (w w1 : World) (D : Nat) (s t : Nm) : Prop where
  b1 : Bk w1 w.heap.size 23 [.pointer (some ⟨D, 0, none⟩)]
  b2 : Bk w1 (w.heap.size + 1) 9 [nmV s]
  b3 : Bk w1 (w.heap.size + 2) 9 [nmV t]
  low : Below w.heap.size w w1
theorem Boxes.go (w : World) (D : Nat) (s t : Nm) : Boxes w (((w.alloc (.cells #[.pointer (some ⟨D, 0, none⟩)] 23)).alloc (.cells #[nmV s] 9)).alloc (.cells #[nmV t] 9)) D s t := by
  have hb1 : Below w.heap.size w ((w.alloc (.cells #[.pointer (some ⟨D, 0, none⟩)] 23)).alloc (.cells #[nmV s] 9)) := ((Below.refl _ _).alloc (Nat.le_refl _) _).alloc (by simp) _
  have hd : Bk ((w.alloc (.cells #[.pointer (some ⟨D, 0, none⟩)] 23)).alloc (.cells #[nmV s] 9)) w.heap.size 23 [.pointer (some ⟨D, 0, none⟩)] := (heap_alloc_old _ _ (by simp)).trans (heap_alloc_new w _)
  have hn : Bk ((w.alloc (.cells #[.pointer (some ⟨D, 0, none⟩)] 23)).alloc (.cells #[nmV s] 9)) (w.heap.size + 1) 9 [nmV s] := by
    have := Bk.new (w.alloc (.cells #[.pointer (some ⟨D, 0, none⟩)] 23)) 9 [nmV s]
    rwa [World.size_alloc] at this
  have hsz : ((w.alloc (.cells #[.pointer (some ⟨D, 0, none⟩)] 23)).alloc (.cells #[nmV s] 9)).heap.size = w.heap.size + 2 := by simp
  refine ⟨(heap_alloc_old _ _ (by omega)).trans hd, (heap_alloc_old _ _ (by omega)).trans hn, ?_, hb1.alloc (by omega) _⟩
  have := Bk.new ((w.alloc (.cells #[.pointer (some ⟨D, 0, none⟩)] 23)).alloc (.cells #[nmV s] 9)) 9 [nmV t]
  rwa [hsz] at this
theorem Boxes.below {w w1 w2 : World} {D : Nat} {s t : Nm} (h : Boxes w w1 D s t) (hb : Below w1.heap.size w1 w2) : Boxes w w2 D s t :=
  ⟨h.b1.below hb h.b1.lt, h.b2.below hb h.b2.lt, h.b3.below hb h.b3.lt, h.low.trans (hb.mono h.low.size)⟩
theorem rd_new (w : World) (t : TypeId) (vs : List Value) : Rd (w.alloc (.cells vs.toArray t)) (fun b => b = w.heap.size) (some ⟨w.heap.size, 0, none⟩) vs.length vs :=
  ⟨fun e => (by cases e), fun _ => ⟨_, rfl, rfl, news_new w vs t⟩⟩
theorem okN_len {s : Nm} (h : okN s = true) : s.length ≤ 24 := by
  unfold okN at h
  rw [Bool.and_eq_true, decide_eq_true_eq] at h
  exact h.1.2
def renE (L : List FE) (s t : Nm) : Int := if !(okN s && okN t) then 2 else if (fd L s).isSome then 0 else 6
def renL (L : List FE) (s t : Nm) : List FE := match okN s && okN t, fd L s with
  | true, some f => putF (delF L s) ⟨t, f.l, f.n⟩
  | _, _ => L
section
variable {B : Nat → Prop} {D n : Nat} {room : Int} {L : List FE} {w : World} (h : DB B D room L n w) (s t : Nm) (hs : s.length ≤ 1000000) (ht : t.length ≤ 1000000)
include h hs ht
theorem op_rename : Calls Tryz.prog 29 #[.pointer (some ⟨D, 0, none⟩), nmV s, nmV t] w fun e w' => e = .returned (.int .i64 (renE L s t)) ∧ DDid B D room (renL L s t) n w w' := by
  have hbx := Boxes.go w D s t
  obtain ⟨st, h⟩ := h
  have h1 := h.below hbx.low
  have hk := known_any D st.m _ _ h1.dsk.dsk
  unfold nmV at *
  go_enter Tryz.func29, Tryz.ntmps29
  go_wp2_with fail
  generalize ((w.alloc (.cells #[.pointer (some ⟨D, 0, none⟩)] 23)).alloc (.cells #[.string ⟨s.toArray⟩] 9)).alloc (.cells #[.string ⟨t.toArray⟩] 9) = w1 at *
  have c1 := hbx.b1.cell 0
  have c2 := hbx.b2.cell 0
  have c3 := hbx.b3.cell 0
  simp only [List.getElem?_cons_zero] at c1 c2 c3
  have hr := right_any _ _ _ [s, t] _ (rd_new w1 9 [nmV s, nmV t]) (by rintro b rfl; simp) (by simp; omega) (by simp)
  simp only [List.length_cons, List.length_nil, Nat.zero_add, Nat.reduceAdd] at hr
  have hb2 : Below w1.heap.size w1 (w1.alloc (.cells #[nmV s, nmV t] 9)) := (Below.refl _ _).alloc (Nat.le_refl _) _
  unfold nmV at *
  go_wp2_with fail
  (with_reducible refine hk.mono ?_)
  rintro _ _ ⟨rfl, rfl⟩
  clear hk
  go_wp2_with fail
  (with_reducible refine hr.mono ?_)
  rintro _ w2 ⟨rfl, hb3⟩
  clear hr
  have hb4 := hb2.trans (hb3.mono hb2.size)
  have hbx2 := hbx.below hb4
  have h2 := h1.below hb4
  cases eo : okN s && okN t
  · have : [s, t].all okN = false := by simpa using eo
    rw [this]
    unfold nmV at *
    go_wp2_with fail
    go_ret
    refine ⟨by unfold renE; rw [eo]; rfl, ?_⟩
    have : renL L s t = L := by unfold renL; rw [eo]
    rw [this]
    exact DDid.same ⟨st, h⟩ (hbx2.low)
  · have : [s, t].all okN = true := by simpa using eo
    rw [this]
    have d1 := hbx2.b1.cell 0
    have d2 := hbx2.b2.cell 0
    simp only [List.getElem?_cons_zero] at d1 d2
    cases e : fd L s with
    | none =>
      have hw := with_none h2 s hs e (.func (.func 56) #[] #[.pointer (some ⟨w.heap.size, 0, none⟩), .pointer (some ⟨w.heap.size + 1, 0, none⟩), .pointer (some ⟨w.heap.size + 2, 0, none⟩)])
      have hE : renE L s t = 6 := by unfold renE; rw [eo, e]; rfl
      have hL : renL L s t = L := by unfold renL; rw [eo, e]
      have HF := Lib.hid (DDid.same ⟨st, h⟩ hbx2.low)
      unfold nmV at *
      go_wp2_with fail
      (with_reducible refine hw.mono ?_)
      rintro _ _ ⟨rfl, rfl⟩
      clear hw
      go_wp2_with fail
      go_ret
      exact ⟨by rw [hE]; rfl, by rw [hL]; exact HF.out⟩
    | some g =>
      obtain ⟨f, j, e1, e2, _, hj⟩ := fdD_some_of h e
      have hw := rename_with h2 s t hs (okN_len (by rw [Bool.and_eq_true] at eo; exact eo.2)) e1 hj hbx2.b1 hbx2.b2 hbx2.b3
      have hE : renE L s t = 0 := by unfold renE; rw [eo, e]; rfl
      have hL : renL L s t = putF (delF L s) ⟨t, f.l, f.n⟩ := by unfold renL; rw [eo, e, ← e2]; rfl
      have HF := Lib.hid hbx2.low
      unfold nmV at *
      go_wp2_with fail
      (with_reducible refine hw.mono ?_)
      rintro _ w3 ⟨rfl, q1, q2⟩
      clear hw
      go_wp2_with fail
      go_ret
      exact ⟨by rw [hE]; rfl, by rw [hL]; exact ⟨B, fun _ q => .inl q, q1, (Below.lv HF.out).trans q2 (fun _ q => .inl q)⟩⟩
end
end Go.Proofs.YtcmbeolicopicaaGreat
