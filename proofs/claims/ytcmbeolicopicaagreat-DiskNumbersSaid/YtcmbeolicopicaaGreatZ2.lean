/- What stays; small facts on slices. No program. Maps known by their list of entries: a new key; ranging over them. No program. disk: files by their names, in plain words. No program. disk: a disk in memory. -/
import Derived.OwnWalk
import Derived.Laws.MakeOwn
import Derived.StillTailTactics
import Derived.Maps.RangeRun
import Derived.Laws.IdiomRangeMap
import Derived.WalkKit
import Derived.Lib.MinMaxS
import Derived.Test.YtcmbeolicopicaaGreatZ1
namespace Go.Proofs.YtcmbeolicopicaaGreat
open Go.RowKit
set_option linter.unusedVariables false
set_option maxRecDepth 100000

/-- What K holds of lies as it lay. -/
structure Ag (K : Nat → Prop) (W W' : World) : Prop where
  os : W'.os = W.os
  tape : W'.tape = W.tape
  output : W'.output = W.output
  size : W.heap.size ≤ W'.heap.size
  block : ∀ k, k < W.heap.size → K k → W'.heap[k]? = W.heap[k]?
theorem Ag.refl (K : Nat → Prop) (W : World) : Ag K W W := ⟨rfl, rfl, rfl, Nat.le_refl _, fun _ _ _ => rfl⟩
theorem Ag.trans {K : Nat → Prop} {A B C : World} (h : Ag K A B) (k : Ag K B C) : Ag K A C :=
  ⟨k.os.trans h.os, k.tape.trans h.tape, k.output.trans h.output, Nat.le_trans h.size k.size, fun i hi hK => (k.block i (Nat.lt_of_lt_of_le hi h.size) hK).trans (h.block i hi hK)⟩
theorem Ag.mono {K K' : Nat → Prop} {A B : World} (h : Ag K A B) (hK : ∀ k, k < A.heap.size → K' k → K k) : Ag K' A B := ⟨h.os, h.tape, h.output, h.size, fun i hi hk => h.block i hi (hK i hi hk)⟩
theorem Ag.of_below {A B : World} (K : Nat → Prop) (h : Below A.heap.size A B) : Ag K A B := ⟨h.os, h.tape, h.output, h.size, fun i hi _ => h.block i hi⟩
theorem Ag.drew {K : Nat → Prop} {A B : World} (h : Ag K A B) : Ag K A B.drew := ⟨h.os, h.tape, h.output, h.size, h.block⟩
theorem Ag.alloc {K : Nat → Prop} {A B : World} (h : Ag K A B) (o : Obj) : Ag K A (B.alloc o) := h.trans (Ag.of_below K ((Below.refl _ _).alloc (Nat.le_refl _) o))
theorem Ag.setCell {K : Nat → Prop} {A B : World} (h : Ag K A B) {p : Addr} (hp : p.block < A.heap.size → ¬ K p.block) (u : Value) : Ag K A (B.setCell p u) :=
  ⟨h.os, h.tape, h.output, by simpa [World.setCell] using h.size, fun i hi hk => (Below.heap_setCell B p u i (fun e => hp (by rw [← e]; exact hi) (by rw [← e]; exact hk))).trans (h.block i hi hk)⟩
theorem Ag.grown {K : Nat → Prop} {A B C : World} {row : Option Nat} (h : Ag K A B) (hg : B.grownBy C row) (hr : ∀ r, row = some r → r < A.heap.size → ¬ K r) : Ag K A C :=
  ⟨hg.os.trans h.os, hg.tape.trans h.tape, hg.output.trans h.output, Nat.le_trans h.size hg.size, fun i hi hk => (hg.block i (Nat.lt_of_lt_of_le hi h.size) (fun e => hr i e.symm hi hk)).trans (h.block i hi hk)⟩
theorem Ag.below {K : Nat → Prop} {A B : World} {n : Nat} (h : Ag K A B) (hn : n ≤ A.heap.size) (hk : ∀ k, k < n → K k) : Below n A B := ⟨h.os, h.tape, h.output, h.size, fun i hi => h.block i (Nat.lt_of_lt_of_le hi hn) (hk i hi)⟩
theorem frozen_blk {w : World} {g : Nat} {cs : Array Value} {t : TypeId} (h : w.heap[g]? = some (.cells cs t (0, 0))) (j : Nat) : w.frozen? ⟨g, j, none⟩ = false := by simp [World.frozen?, h]
theorem news_new (w : World) (cs : List Value) (t : TypeId) : ∀ j u, cs[j]? = some u → (w.alloc (.cells cs.toArray t)).cell? ((⟨w.heap.size, 0, none⟩ : Addr).add j) = some u := by
  intro j u hu
  have hadd : (⟨w.heap.size, 0, none⟩ : Addr).add j = ⟨w.heap.size, j, none⟩ := by unfold Addr.add; split <;> simp_all
  rw [hadd, cell_of_row _ _ j _ _ _ (heap_alloc_new w _)]
  simpa using hu
theorem Rd.at_ {w : World} {K : Nat → Prop} {A : Option Addr} {l : List Int} {c : Nat} (h : Rd w K A c (u8s l)) {k : Nat} (hk : k < l.length) :
    ∃ a x, A = some a ∧ K a.block ∧ w.cell? (a.add k) = some (.int .u8 x) ∧ Hid (l[k]? = some x) := by
  obtain ⟨a, e, hb, hc⟩ := h.2 (by intro e; have := congrArg List.length e; simp at this; subst this; simp at hk)
  exact ⟨a, l[k], e, hb, hc k _ (by simp [u8s, hk]), List.getElem?_eq_getElem hk⟩
theorem Rd.cells {w : World} {K : Nat → Prop} {c : Nat} {A : Option Addr} {xs : List Value} (h : Rd w K A c xs) : ∀ ad, A = some ad → ∀ j u, xs[j]? = some u → w.cell? (ad.add j) = some u := by
  intro ad e j u hu
  obtain ⟨a, e', _, hc⟩ := h.2 (by rintro rfl; simp at hu)
  rw [e] at e'
  injection e' with e'
  subst e'
  exact hc j u hu
theorem u8s_app (a b : List Int) : u8s (a ++ b) = u8s a ++ u8s b := by simp [u8s]
theorem owns_form {w : World} {base e size n : Nat} {v : Value} {xs : List Value} (h : w.ownsRow base e size v n xs) : ∃ A c, v = .slice A n c := by
  rcases h.2 with ⟨h', hn⟩ | ⟨g, cap, cur, h', _⟩
  · exact ⟨none, 0, by rw [h', hn]⟩
  · exact ⟨_, _, h'⟩
theorem owns_block {w : World} {base e size n : Nat} {v : Value} {xs : List Value} (h : w.ownsRow base e size v n xs) : ∀ g, v.ownBlock = some g → base ≤ g ∧ g < w.heap.size := by
  intro g hg
  rcases h.2 with ⟨h', _⟩ | ⟨g', cap, cur, rfl, hb, hg', _⟩
  · rw [h'] at hg; cases hg
  · injection hg with hg
    subst hg
    exact ⟨hb, (Array.getElem?_eq_some_iff.1 hg').1⟩
theorem owns_keep {w w' : World} {base e size n : Nat} {v : Value} {xs : List Value} (h : w.ownsRow base e size v n xs) (hk : ∀ g, v.ownBlock = some g → w'.heap[g]? = w.heap[g]?) : w'.ownsRow base e size v n xs := by
  refine ⟨h.1, ?_⟩
  rcases h.2 with h' | ⟨g, cap, cur, rfl, hb, hg, h1, h2, h3, h4⟩
  · exact .inl h'
  · exact .inr ⟨g, cap, cur, rfl, hb, (hk g rfl).trans hg, h1, h2, h3, h4⟩
theorem owns_lt {w : World} {base e size n : Nat} {v : Value} {xs : List Value} (h : w.ownsRow base e size v n xs) : ∀ g, v.ownBlock = some g → g < w.heap.size := by
  intro g hg
  rcases h.2 with ⟨h', _⟩ | ⟨g', cap, cur, rfl, hb, hg', _⟩
  · rw [h'] at hg; cases hg
  · injection hg with hg
    subst hg
    exact (Array.getElem?_eq_some_iff.1 hg').1
end Go.Proofs.YtcmbeolicopicaaGreat
namespace Go.Proofs.YtcmbeolicopicaaGreat
open Go.RowKit Go.Maps Go.ChangeMaps
set_option linter.unusedVariables false
set_option maxRecDepth 100000

section
variable {P : Program} {t kt et : TypeId} {w : World} {m clock : Nat} {es : List MapEntry} {x : Value} {l : Lit}
/-- m[x] = v, x not in the map. -/
theorem run_upd_none (K : Keyed P kt) (ht : P.underlying t = some (.map kt et)) (hb : w.heap[m]? = some (.map es.toArray clock)) (hes : EsOk P kt es clock) (hx : keyOf P kt x = some l) (hno : ∀ e ∈ es, e.key ≠ x) (v : Value) :
    (Instr.mapUpdate t (.map (some m)) x v).run P w = .ok () (setBlock w m (.map (es ++ [({ key := x, val := v, born := clock } : MapEntry)]).toArray (clock + 1))) := by
  simp [Instr.mapUpdate, run_underlying ht, MapKept.run_getObj_map hb, K.check w _ hx, find_none K hes hx hno, MapKept.run_setObj_map _ hb, Result.andThen, setBlock]
end
/-- A map is ranged over: these have come. -/
structure It (w : World) (b r : Nat) (es : List MapEntry) (ck : Nat) (ss : List MapEntry) : Prop where
  map : w.heap[b]? = some (.map es.toArray ck)
  it : ∃ seen c0, w.heap[r]? = some (.mapIter (some b) ck seen c0) ∧ seen.toList = ss.map (·.born) ∧ ck ≤ c0
  sub : ∀ e ∈ ss, e ∈ es
  nd : (ss.map (·.born)).Nodup
theorem It.keep {w w' : World} {b r ck : Nat} {es ss : List MapEntry} (h : It w b r es ck ss) (hb : w'.heap[b]? = w.heap[b]?) (hr : w'.heap[r]? = w.heap[r]?) : It w' b r es ck ss :=
  ⟨hb.trans h.map, h.it.elim fun s q => q.elim fun c q => ⟨s, c, hr.trans q.1, q.2⟩, h.sub, h.nd⟩
theorem It.lt {w : World} {b r ck : Nat} {es ss : List MapEntry} (h : It w b r es ck ss) : b < w.heap.size ∧ r < w.heap.size := by
  obtain ⟨s, c, h1, _⟩ := h.it
  exact ⟨(Array.getElem?_eq_some_iff.1 h.map).1, (Array.getElem?_eq_some_iff.1 h1).1⟩
theorem It.ne {w : World} {b r ck : Nat} {es ss : List MapEntry} (h : It w b r es ck ss) : b ≠ r := by
  rintro rfl
  obtain ⟨s, c, h1, _⟩ := h.it
  rw [h.map] at h1
  cases h1
theorem es_nd {P : Program} {kt : TypeId} {es : List MapEntry} {ck : Nat} (h : EsOk P kt es ck) : (es.map (·.born)).Nodup := by
  have := h.bapart
  rw [List.Nodup, List.pairwise_map]
  exact this
theorem nodup_of_map {α β : Type} (f : α → β) {l : List α} (h : (l.map f).Nodup) : l.Nodup := (List.pairwise_map.1 h).imp (fun hne e => hne (congrArg f e))
theorem len_le_of_sub {α : Type} : ∀ (l l' : List α), l.Nodup → (∀ x ∈ l, x ∈ l') → l.length ≤ l'.length
  | [], _, _, _ => Nat.zero_le _
  | x :: l, l', hn, hs => by
    obtain ⟨s, t, rfl⟩ := List.append_of_mem (hs x (by simp))
    have hn' := List.nodup_cons.1 hn
    have := len_le_of_sub l (s ++ t) hn'.2 (fun y hy => by
      have := hs y (by simp [hy])
      simp at this ⊢
      rcases this with h | rfl | h
      · exact .inl h
      · exact absurd hy hn'.1
      · exact .inr h)
    simp at this ⊢
    omega
theorem It.len {w : World} {b r ck : Nat} {es ss : List MapEntry} (h : It w b r es ck ss) : ss.length ≤ es.length := len_le_of_sub _ _ (nodup_of_map _ h.nd) h.sub
theorem born_one {es : List MapEntry} (h : (es.map (·.born)).Nodup) {a b : MapEntry} (ha : a ∈ es) (hb : b ∈ es) (e : a.born = b.born) : a = b := by
  rw [List.Nodup, List.pairwise_map] at h
  obtain ⟨i, hi, rfl⟩ := List.getElem_of_mem ha
  obtain ⟨j, hj, rfl⟩ := List.getElem_of_mem hb
  rcases Nat.lt_trichotomy i j with q | q | q
  · exact absurd e (List.pairwise_iff_getElem.1 h i j hi hj q)
  · subst q; rfl
  · exact absurd e.symm (List.pairwise_iff_getElem.1 h j i hj hi q)
section
variable {P : Program} {w : World} {ops : Array Oper} {rest : List Oper} {o : Oper} {a : Act} {Q : Exit → Act → World → Prop}
theorem wpList_range_it (hg : o.guard = none) (m : Operand) (t : TypeId) (hop : o.op = Op.range t m) (k e : TypeId) (ht : P.underlying t = some (.map k e)) (b : Nat) (es : List MapEntry) (ck : Nat)
    (hm : a.eval m = .map (some b)) (hb : w.heap[b]? = some (.map es.toArray ck))
    (hK : It (w.alloc (.mapIter (some b) ck #[] ck)) b w.heap.size es ck [] → wpList P ops Q rest (a.put o.dst (.pointer (some ⟨w.heap.size, 0, none⟩))) (w.alloc (.mapIter (some b) ck #[] ck))) :
    wpList P ops Q (o :: rest) a w := by
  refine wpList_plain hg fun K' hK' => ?_
  have hrun := run_range_map (P := P) w t k e b es.toArray ck ht hb
  unfold Oper.wp
  simp [execOp, hop, hm, hrun, Result.andThen]
  exact hK' _ _ (hK ⟨(heap_alloc_old w _ (Array.getElem?_eq_some_iff.1 hb).1).trans hb, ⟨#[], ck, heap_alloc_new w _, rfl, Nat.le_refl _⟩, fun _ h => (by cases h), List.nodup_nil⟩)
theorem wpList_next_it {kt : TypeId} {b r ck : Nat} {es ss : List MapEntry} (hg : o.guard = none) (it : Operand) (hop : o.op = Op.next it false) (hes : EsOk P kt es ck) (h : It w b r es ck ss)
    (hit : a.eval it = .pointer (some ⟨r, 0, none⟩))
    (hDone : ss.Perm es → wpList P ops Q rest (a.put o.dst (.tuple #[.bool false])) w)
    (hMore : ∀ (e : MapEntry) (w2 : World), e ∈ es → It w2 b r es ck (ss ++ [e]) → Ag (fun k => k ≠ r) w w2 → (Instr.entry (.pointer (some ⟨r, 0, none⟩))).run P w2 = .ok (.tuple #[e.key, e.val]) w2 → wpList P ops Q rest (a.put o.dst (.tuple #[.bool true, e.key, e.val])) w2) :
    wpList P ops Q (o :: rest) a w := by
  refine wpList_plain hg fun K' hK' => ?_
  obtain ⟨seen, c0, hr, hs, hsc⟩ := h.it
  have hne := h.ne
  have hb := h.map
  unfold Oper.wp
  rcases run_next_at (P := P) w o.type r b ck c0 seen es.toArray ck hr hb (by simpa using hes.born) hsc with ⟨h0, hrun⟩ | ⟨e, he, w1, hal, hrun⟩
  · simp [execOp, hop, hit, hrun, Result.andThen]
    refine hK' _ _ (hDone ?_)
    refine (List.perm_ext_iff_of_nodup (nodup_of_map _ h.nd) (nodup_of_map _ (es_nd hes))).2 fun e => ⟨h.sub e, fun he => ?_⟩
    have h1 := all_seen es.toArray seen h0 e (by simpa using he)
    have h2 : e.born ∈ seen.toList := by simpa using h1
    rw [hs] at h2
    obtain ⟨e', he', q⟩ := List.mem_map.1 h2
    rw [← born_one (es_nd hes) (h.sub e' he') he q]
    exact he'
  · have hml := mem_left he
    have hee : e ∈ es := by simpa using hml.1
    have hns : e.born ∉ seen.toList := by have := hml.2; simpa using this
    have hw1 : w1.heap = w.heap := by rcases hal with rfl | rfl <;> rfl
    have hrl : r < w1.heap.size := by rw [hw1]; exact (Array.getElem?_eq_some_iff.1 hr).1
    have hs1 : (setBlock w1 r (.mapIter (some b) ck (seen.push e.born) ck)).heap[r]? = some (.mapIter (some b) ck (seen.push e.born) ck) := by simp [setBlock, hrl]
    have hs2 : ∀ k, k ≠ r → (setBlock w1 r (.mapIter (some b) ck (seen.push e.born) ck)).heap[k]? = w.heap[k]? := fun k hk => by rw [← hw1]; simp [setBlock, Array.getElem?_setIfInBounds_ne (fun q => hk q.symm)]
    simp [execOp, hop, hit, hrun, Result.andThen]
    refine hK' _ _ (hMore e _ hee ⟨(hs2 b hne).trans hb, ⟨seen.push e.born, ck, hs1, by simp [hs], Nat.le_refl _⟩, ?_, ?_⟩ ?_ ?_)
    · intro x hx
      rcases List.mem_append.1 hx with hx | hx
      · exact h.sub x hx
      · simp at hx; rw [hx]; exact hee
    · rw [List.map_append, List.nodup_append]
      refine ⟨h.nd, by simp, fun x hx y hy e2 => ?_⟩
      simp at hy
      rw [← hs] at hx
      exact hns (by rw [← hy, ← e2]; exact hx)
    · rcases hal with rfl | rfl <;> exact ⟨rfl, rfl, rfl, by simp [setBlock], fun i _ hi => hs2 i hi⟩
    · exact run_entry_at _ r b ck seen es.toArray ck e hs1 ((hs2 b hne).trans hb) (by simpa using hee) (by simpa using es_nd hes)
end
end Go.Proofs.YtcmbeolicopicaaGreat
namespace Go.Proofs.YtcmbeolicopicaaGreat
set_option linter.unusedVariables false

abbrev Nm := List UInt8
/-- A file: its name, its bytes, how many of them are safe. -/
structure FE where
  s : Nm
  l : List Int
  n : Nat
theorem nm_irr (a : Nm) : ¬ a < a := List.lt_irrefl a
theorem nm_trans {a b c : Nm} (h : a < b) (k : b < c) : a < c := List.lt_trans h k
theorem nm_asym {a b : Nm} (h : a < b) : ¬ b < a := fun k => nm_irr a (nm_trans h k)
theorem nm_tri (a b : Nm) : a < b ∨ a = b ∨ b < a := by
  by_cases h : a < b
  · exact .inl h
  · by_cases k : b < a
    · exact .inr (.inr k)
    · exact .inr (.inl (List.le_antisymm (List.not_lt.1 k) (List.not_lt.1 h)))
theorem nm_ne {a b : Nm} (h : a < b) : a ≠ b := fun e => nm_irr b (e ▸ h)
/-- Names rise. -/
def Srt (L : List FE) : Prop := L.Pairwise fun a b => a.s < b.s
/-- No name twice. -/
def Dis (L : List FE) : Prop := L.Pairwise fun a b => a.s ≠ b.s
theorem Srt.dis {L : List FE} (h : Srt L) : Dis L := h.imp nm_ne
theorem Dis.nodup {L : List FE} (h : Dis L) : L.Nodup := h.imp fun hn e => hn (by rw [e])
theorem Dis.perm {L M : List FE} (h : Dis L) (p : L.Perm M) : Dis M := p.pairwise h fun hn => Ne.symm hn
theorem Dis.one {L : List FE} (h : Dis L) {a b : FE} (ha : a ∈ L) (hb : b ∈ L) (e : a.s = b.s) : a = b := by
  obtain ⟨i, hi, rfl⟩ := List.getElem_of_mem ha
  obtain ⟨j, hj, rfl⟩ := List.getElem_of_mem hb
  rcases Nat.lt_trichotomy i j with q | q | q
  · exact absurd e (List.pairwise_iff_getElem.1 h i j hi hj q)
  · subst q; rfl
  · exact absurd e.symm (List.pairwise_iff_getElem.1 h j i hj hi q)
def fd (L : List FE) (s : Nm) : Option FE := L.find? fun f => decide (f.s = s)
theorem fd_some {L : List FE} {s : Nm} {f : FE} (h : fd L s = some f) : f ∈ L ∧ f.s = s :=
  ⟨List.mem_of_find?_eq_some h, by have := List.find?_some h; simpa using this⟩
theorem fd_none {L : List FE} {s : Nm} (h : fd L s = none) : ∀ f ∈ L, f.s ≠ s := by
  intro f hf
  have := List.find?_eq_none.1 h f hf
  simpa using this
theorem fd_mem {L : List FE} (h : Dis L) {f : FE} (hf : f ∈ L) : fd L f.s = some f := by
  cases e : fd L f.s with
  | none => exact absurd rfl (fd_none e f hf)
  | some g =>
    obtain ⟨h1, h2⟩ := fd_some e
    rw [h.one h1 hf h2]
theorem fd_not {L : List FE} {s : Nm} (h : ∀ f ∈ L, f.s ≠ s) : fd L s = none := List.find?_eq_none.2 fun f hf => by simpa using h f hf
theorem fd_perm {L M : List FE} (h : Dis L) (p : L.Perm M) (s : Nm) : fd L s = fd M s := by
  cases e : fd M s with
  | none => exact fd_not fun f hf => fd_none e f (p.mem_iff.1 hf)
  | some g =>
    obtain ⟨h1, rfl⟩ := fd_some e
    exact fd_mem h (p.mem_iff.2 h1)
/-- A file is put in its place. -/
def putF (L : List FE) (f : FE) : List FE := L.filter (fun g => decide (g.s < f.s)) ++ f :: L.filter (fun g => decide (f.s < g.s))
def delF (L : List FE) (s : Nm) : List FE := L.filter fun g => decide (g.s ≠ s)
def usedF (L : List FE) : Nat := (L.map fun f => f.l.length).sum
theorem mem_putF {L : List FE} {f g : FE} : g ∈ putF L f ↔ g = f ∨ (g ∈ L ∧ g.s ≠ f.s) := by
  unfold putF
  simp only [List.mem_append, List.mem_filter, List.mem_cons, decide_eq_true_eq]
  constructor
  · rintro (⟨h1, h2⟩ | h | ⟨h1, h2⟩)
    · exact .inr ⟨h1, nm_ne h2⟩
    · exact .inl h
    · exact .inr ⟨h1, Ne.symm (nm_ne h2)⟩
  · rintro (h | ⟨h1, h2⟩)
    · exact .inr (.inl h)
    · rcases nm_tri g.s f.s with q | q | q
      · exact .inl ⟨h1, q⟩
      · exact absurd q h2
      · exact .inr (.inr ⟨h1, q⟩)
theorem mem_delF {L : List FE} {s : Nm} {g : FE} : g ∈ delF L s ↔ g ∈ L ∧ g.s ≠ s := by
  unfold delF
  simp [List.mem_filter]
theorem srt_putF {L : List FE} (h : Srt L) (f : FE) : Srt (putF L f) := by
  unfold putF
  refine List.pairwise_append.2 ⟨h.sublist List.filter_sublist, List.pairwise_cons.2 ⟨fun g hg => ?_, h.sublist List.filter_sublist⟩, fun a ha b hb => ?_⟩
  · exact of_decide_eq_true (List.mem_filter.1 hg).2
  · have h1 : a.s < f.s := of_decide_eq_true (List.mem_filter.1 ha).2
    rcases List.mem_cons.1 hb with rfl | hb
    · exact h1
    · exact nm_trans h1 (of_decide_eq_true (List.mem_filter.1 hb).2)
theorem srt_delF {L : List FE} (h : Srt L) (s : Nm) : Srt (delF L s) := h.sublist List.filter_sublist
/-- There is one rising list of the same files. -/
theorem srt_one : ∀ {L M : List FE}, Srt L → Srt M → (∀ f, f ∈ L ↔ f ∈ M) → L = M := by
  intro L
  induction L with
  | nil =>
    intro M _ _ h
    cases M with
    | nil => rfl
    | cons x l => exact absurd ((h x).2 (by simp)) (by simp)
  | cons x l ih =>
    intro M h1 h2 h
    cases M with
    | nil => exact absurd ((h x).1 (by simp)) (by simp)
    | cons x' l' =>
      obtain ⟨a1, a2⟩ := List.pairwise_cons.1 h1
      obtain ⟨b1, b2⟩ := List.pairwise_cons.1 h2
      have hx : x = x' := by
        have m1 := (h x).1 (by simp)
        have m2 := (h x').2 (by simp)
        simp at m1 m2
        rcases m1 with e | m1
        · exact e
        · rcases m2 with e | m2
          · exact e.symm
          · exact absurd (a1 _ m2) (nm_asym (b1 _ m1))
      subst hx
      congr 1
      refine ih a2 b2 fun p => ⟨fun hp => ?_, fun hp => ?_⟩
      · have := (h p).1 (by simp [hp])
        simp at this
        rcases this with rfl | this
        · exact absurd (a1 _ hp) (nm_irr _)
        · exact this
      · have := (h p).2 (by simp [hp])
        simp at this
        rcases this with rfl | this
        · exact absurd (b1 _ hp) (nm_irr _)
        · exact this
theorem perm_of {L M : List FE} (hL : Dis L) (hM : Dis M) (h : ∀ f, f ∈ L ↔ f ∈ M) : L.Perm M := (List.perm_ext_iff_of_nodup hL.nodup hM.nodup).2 h
theorem dis_set {L : List FE} (h : Dis L) {j : Nat} {f g : FE} (hj : L[j]? = some f) (e : g.s = f.s) : Dis (L.set j g) := by
  unfold Dis at *
  have hm : (L.set j g).map FE.s = L.map FE.s := by
    refine List.ext_getElem? fun i => ?_
    rw [List.getElem?_map, List.getElem?_map, List.getElem?_set]
    by_cases hi : j = i
    · subst hi; rw [if_pos rfl, if_pos (List.getElem?_eq_some_iff.1 hj).1, hj]; simp [e]
    · rw [if_neg hi]
  rw [← List.pairwise_map (f := FE.s) (R := fun a b => a ≠ b)] at h ⊢
  rw [hm]; exact h
theorem mem_set {L : List FE} (h : Dis L) {j : Nat} {f g x : FE} (hj : L[j]? = some f) (e : g.s = f.s) : x ∈ L.set j g ↔ x = g ∨ (x ∈ L ∧ x.s ≠ g.s) := by
  obtain ⟨hl, hf⟩ := List.getElem?_eq_some_iff.1 hj
  constructor
  · intro hx
    obtain ⟨i, hi, rfl⟩ := List.getElem_of_mem hx
    rw [List.getElem_set]
    split
    · exact .inl rfl
    · next hne =>
      simp at hi
      refine .inr ⟨List.getElem_mem hi, fun e2 => hne ?_⟩
      have := h.one (List.getElem_mem hi) (List.getElem_mem hl) (by rw [e2, e, hf])
      have := (List.pairwise_iff_getElem.1 h)
      rcases Nat.lt_trichotomy i j with q | q | q
      · exact absurd (by rw [e2, e, hf]) (this i j hi hl q)
      · exact q.symm
      · exact absurd (by rw [e2, e, hf]) (this j i hl hi q)
  · rintro (rfl | ⟨hx, hne⟩)
    · exact List.mem_set hl _
    · obtain ⟨i, hi, rfl⟩ := List.getElem_of_mem hx
      have hij : j ≠ i := fun q => hne (by subst q; rw [hf, e])
      exact List.mem_iff_getElem.2 ⟨i, by simpa using hi, by rw [List.getElem_set_ne hij]⟩
/-- A file of a name that was is another one. -/
theorem perm_set {M L : List FE} (hM : Dis M) (hL : Srt L) (p : M.Perm L) {j : Nat} {f g : FE} (hj : M[j]? = some f) (e : g.s = f.s) : (M.set j g).Perm (putF L g) :=
  perm_of (dis_set hM hj e) (srt_putF hL g).dis fun x => by rw [mem_set hM hj e, mem_putF, p.mem_iff]
/-- A file of a new name. -/
theorem dis_push {M : List FE} (hM : Dis M) {g : FE} (hn : ∀ f ∈ M, f.s ≠ g.s) : Dis (M ++ [g]) :=
  List.pairwise_append.2 ⟨hM, List.pairwise_singleton _ _, fun a ha b hb => by simp at hb; rw [hb]; exact hn a ha⟩
theorem perm_push {M L : List FE} (hM : Dis M) (hL : Srt L) (p : M.Perm L) {g : FE} (hn : ∀ f ∈ M, f.s ≠ g.s) : (M ++ [g]).Perm (putF L g) := by
  refine perm_of (dis_push hM hn) (srt_putF hL g).dis fun x => ?_
  rw [mem_putF, List.mem_append, List.mem_singleton]
  constructor
  · rintro (h | h)
    · exact .inr ⟨p.mem_iff.1 h, hn x h⟩
    · exact .inl h
  · rintro (h | ⟨h, _⟩)
    · exact .inr h
    · exact .inl (p.mem_iff.2 h)
theorem perm_erase {M L : List FE} (hM : Dis M) (hL : Srt L) (p : M.Perm L) {j : Nat} {f : FE} (hj : M[j]? = some f) : (M.eraseIdx j).Perm (delF L f.s) := by
  obtain ⟨hl, hf⟩ := List.getElem?_eq_some_iff.1 hj
  refine perm_of (hM.sublist (List.eraseIdx_sublist _ _)) (srt_delF hL f.s).dis fun x => ?_
  rw [mem_delF]
  constructor
  · intro hx
    refine ⟨p.mem_iff.1 ((List.eraseIdx_sublist _ _).subset hx), fun e => ?_⟩
    obtain ⟨i, hi, hx'⟩ := List.mem_iff_getElem.1 hx
    rw [List.getElem_eraseIdx] at hx'
    have hps := List.pairwise_iff_getElem.1 hM
    have hil : i < M.length - 1 := by rw [← List.length_eraseIdx_of_lt hl]; exact hi
    split at hx'
    · next q => exact absurd (by rw [hx', hf, e]) (hps i j (by omega) hl q)
    · next q => exact absurd (by rw [hx', hf, e]) (hps j (i + 1) hl (by omega) (by omega))
  · rintro ⟨hx, hne⟩
    obtain ⟨i, hi, rfl⟩ := List.getElem_of_mem (p.mem_iff.2 hx)
    have hij : i ≠ j := fun q => hne (by subst q; rw [hf])
    rw [List.mem_eraseIdx_iff_getElem]
    exact ⟨i, hi, hij, rfl⟩
theorem perm_used {M L : List FE} (p : M.Perm L) : usedF M = usedF L := (p.map _).sum_nat
theorem used_putF {L : List FE} (hL : Srt L) (f : FE) : usedF (putF L f) + ((fd L f.s).map fun g => g.l.length).getD 0 = usedF L + f.l.length := by
  cases e : fd L f.s with
  | none =>
    have hn := fd_none e
    have := perm_used (perm_push hL.dis hL (List.Perm.refl L) (g := f) hn)
    rw [← this]
    simp [usedF]
  | some g =>
    obtain ⟨h1, h2⟩ := fd_some e
    obtain ⟨j, hj⟩ := List.mem_iff_getElem?.1 h1
    have := perm_used (perm_set hL.dis hL (List.Perm.refl L) (g := f) hj h2.symm)
    rw [← this]
    obtain ⟨hl, hg⟩ := List.getElem?_eq_some_iff.1 hj
    have e1 : L = L.take j ++ g :: L.drop (j + 1) := by rw [← hg, ← List.drop_eq_getElem_cons hl, List.take_append_drop]
    have e2 : L.set j f = L.take j ++ f :: L.drop (j + 1) := by rw [List.set_eq_take_append_cons_drop, if_pos hl]
    rw [e2]
    conv => rhs; rw [e1]
    simp [usedF]
    omega
end Go.Proofs.YtcmbeolicopicaaGreat
namespace Go.Proofs.YtcmbeolicopicaaGreat
open Go.RowKit Go.Maps Go.ChangeMaps
set_option linter.unusedVariables false
set_option linter.unusedSimpArgs false
set_option maxRecDepth 100000

/-- A file in memory: its struct's block, the slice of its bytes. -/
structure DF where
  s : Nm
  g : Nat
  A : Option Addr
  c : Nat
  l : List Int
  n : Nat
def DF.fe (f : DF) : FE := ⟨f.s, f.l, f.n⟩
def DF.val (f : DF) : Value := .pointer (some ⟨f.g, 0, none⟩)
def DF.dv (f : DF) : Value := .slice f.A f.l.length f.c
/-- A disk: the map's block, the room, the files. -/
structure DSt where
  m : Nat
  room : Int
  fs : List DF
structure FAt (w : World) (f : DF) : Prop where
  bk : Bk w f.g 62 [f.dv, .int .i64 f.n]
  dat : Dat w (fun _ => True) f.A f.c f.l
  len : f.l.length ≤ 8388608
  nl : f.n ≤ f.l.length
  sl : f.s.length ≤ 24
def FSep (f f' : DF) : Prop := f.g ≠ f'.g ∧ ∀ k, f.dv.ownBlock = some k → f'.dv.ownBlock ≠ some k
theorem FSep.symm {f f' : DF} (h : FSep f f') : FSep f' f := ⟨fun e => h.1 e.symm, fun k h1 h2 => h.2 k h2 h1⟩
structure DskAt (w : World) (D : Nat) (st : DSt) : Prop where
  dsk : Bk w D 50 [.map (some st.m), .int .i64 st.room]
  map : ∃ es ck, w.heap[st.m]? = some (.map es.toArray ck) ∧ EsOk Tryz.prog 9 es ck ∧ es.map (fun e => (e.key, e.val)) = st.fs.map fun f => (nmV f.s, f.val)
  file : ∀ f ∈ st.fs, FAt w f
  apart : st.fs.Pairwise FSep
/-- What a disk may write. -/
def DOwn (st : DSt) (k : Nat) : Prop := k = st.m ∨ ∃ f ∈ st.fs, f.g = k ∨ f.dv.ownBlock = some k
theorem FAt.keep {w w' : World} {f : DF} (h : FAt w f) (hg : w'.heap[f.g]? = w.heap[f.g]?) (hd : ∀ b, f.dv.ownBlock = some b → w'.heap[b]? = w.heap[b]?) (hs : w.heap.size ≤ w'.heap.size) : FAt w' f := by
  refine ⟨hg.trans h.bk, ?_, h.len, h.nl, h.sl⟩
  obtain ⟨b, h1, h2⟩ := h.dat
  exact ⟨b, h1.keep (fun e => hd b e), fun e => ⟨trivial, Nat.lt_of_lt_of_le (h2 e).2 hs⟩⟩
theorem FAt.dlt {w : World} {f : DF} (h : FAt w f) {b : Nat} (hb : f.dv.ownBlock = some b) : b < w.heap.size := by
  rcases h.dat.form with ⟨e, _⟩ | ⟨b', cur, e, _, hlt, _⟩
  · rw [DF.dv, e] at hb; cases hb
  · rw [DF.dv, e] at hb
    have hb : some b' = some b := hb
    injection hb with hb
    rw [← hb]; exact hlt
theorem FAt.dub {w : World} {f : DF} (h : FAt w f) {b : Nat} (hb : f.dv.ownBlock = some b) : ∃ cs, w.heap[b]? = some (.cells cs 5 (0, 0)) := by
  rcases h.dat.form with ⟨e, _⟩ | ⟨b', cur, e, _, hlt, hg, _⟩
  · rw [DF.dv, e] at hb; cases hb
  · rw [DF.dv, e] at hb
    have hb : some b' = some b := hb
    injection hb with hb
    rw [← hb]; exact ⟨cur, hg⟩
theorem DskAt.mlt {w : World} {D : Nat} {st : DSt} (h : DskAt w D st) : st.m < w.heap.size := by
  obtain ⟨es, c, h1, _⟩ := h.map
  exact (Array.getElem?_eq_some_iff.1 h1).1
theorem DskAt.olt {w : World} {D : Nat} {st : DSt} (h : DskAt w D st) {k : Nat} (hk : DOwn st k) : k < w.heap.size := by
  rcases hk with rfl | ⟨f, hf, rfl | e⟩
  · exact h.mlt
  · exact (h.file f hf).bk.lt
  · exact (h.file f hf).dlt e
theorem DskAt.keep {w w' : World} {D : Nat} {st : DSt} (h : DskAt w D st) (hD : w'.heap[D]? = w.heap[D]?) (ho : ∀ k, DOwn st k → w'.heap[k]? = w.heap[k]?) (hs : w.heap.size ≤ w'.heap.size) : DskAt w' D st := by
  obtain ⟨es, c, h1, h2, h3⟩ := h.map
  exact ⟨hD.trans h.dsk, ⟨es, c, (ho _ (.inl rfl)).trans h1, h2, h3⟩, fun f hf => (h.file f hf).keep (ho _ (.inr ⟨f, hf, .inl rfl⟩)) (fun b e => ho b (.inr ⟨f, hf, .inr e⟩)) hs, h.apart⟩
theorem DskAt.below {w w' : World} {D : Nat} {st : DSt} (h : DskAt w D st) (hb : Below w.heap.size w w') : DskAt w' D st :=
  h.keep (hb.block _ h.dsk.lt) (fun k hk => hb.block k (h.olt hk)) hb.size
theorem DskAt.heap_ {w w' : World} {D : Nat} {st : DSt} (h : DskAt w D st) (e : w'.heap = w.heap) : DskAt w' D st := h.keep (by rw [e]) (fun _ _ => by rw [e]) (by rw [e]; exact Nat.le_refl _)
/-- The disk's own block is none of these. -/
theorem DskAt.notOwn {w : World} {D : Nat} {st : DSt} (h : DskAt w D st) : ¬ DOwn st D := by
  have hD := h.dsk
  unfold Bk at hD
  rintro (e | ⟨f, hf, e | e⟩)
  · obtain ⟨es, c, h1, _⟩ := h.map
    rw [← e, hD] at h1; cases h1
  · have := (h.file f hf).bk
    unfold Bk at this
    rw [e, hD] at this
    injection this with this
    injection this with _ this
    exact absurd this (by decide)
  · obtain ⟨cs, hc⟩ := (h.file f hf).dub e
    rw [hD] at hc
    injection hc with hc
    injection hc with _ hc
    exact absurd hc (by decide)
theorem DskAt.mg {w : World} {D : Nat} {st : DSt} (h : DskAt w D st) {f : DF} (hf : f ∈ st.fs) : f.g ≠ st.m := by
  intro e
  obtain ⟨es, c, h1, _⟩ := h.map
  have := (h.file f hf).bk
  unfold Bk at this
  rw [e, h1] at this; cases this
theorem DskAt.md {w : World} {D : Nat} {st : DSt} (h : DskAt w D st) {f : DF} (hf : f ∈ st.fs) : f.dv.ownBlock ≠ some st.m := by
  intro e
  obtain ⟨es, c, h1, _⟩ := h.map
  obtain ⟨cs, hc⟩ := (h.file f hf).dub e
  rw [h1] at hc; cases hc
theorem DskAt.gd {w : World} {D : Nat} {st : DSt} (h : DskAt w D st) {f f' : DF} (hf : f ∈ st.fs) (hf' : f' ∈ st.fs) : f'.dv.ownBlock ≠ some f.g := by
  intro e
  have h1 := (h.file f hf).bk
  obtain ⟨cs, hc⟩ := (h.file f' hf').dub e
  unfold Bk at h1
  rw [h1] at hc
  injection hc with hc
  injection hc with _ hc
  exact absurd hc (by decide)
theorem DskAt.sep {w : World} {D : Nat} {st : DSt} (h : DskAt w D st) {i j : Nat} {f f' : DF} (hi : st.fs[i]? = some f) (hj : st.fs[j]? = some f') (hne : i ≠ j) : FSep f f' := by
  obtain ⟨i1, rfl⟩ := List.getElem?_eq_some_iff.1 hi
  obtain ⟨j1, rfl⟩ := List.getElem?_eq_some_iff.1 hj
  rcases Nat.lt_or_gt_of_ne hne with q | q
  · exact List.pairwise_iff_getElem.1 h.apart i j i1 j1 q
  · exact (List.pairwise_iff_getElem.1 h.apart j i j1 i1 q).symm
/-- No name twice. -/
theorem DskAt.dis {w : World} {D : Nat} {st : DSt} (h : DskAt w D st) : Dis (st.fs.map DF.fe) := by
  obtain ⟨es, c, _, h2, h3⟩ := h.map
  have h4 : (es.map fun e => (e.key, e.val)).Pairwise fun a b => a.1 ≠ b.1 := List.pairwise_map.2 h2.apart
  rw [h3] at h4
  rw [Dis, List.pairwise_map]
  exact (List.pairwise_map.1 h4).imp fun hn e => hn (by have e : _ = _ := e; simp only [DF.fe] at e; simp only [e])
def fdD (st : DSt) (s : Nm) : Option DF := st.fs.find? fun f => decide (f.s = s)
theorem fdD_some {st : DSt} {s : Nm} {f : DF} (h : fdD st s = some f) : f ∈ st.fs ∧ f.s = s :=
  ⟨List.mem_of_find?_eq_some h, by have := List.find?_some h; simpa using this⟩
theorem fdD_none {st : DSt} {s : Nm} (h : fdD st s = none) : ∀ f ∈ st.fs, f.s ≠ s := by
  intro f hf
  have := List.find?_eq_none.1 h f hf
  simpa using this
theorem fdD_fd (st : DSt) (s : Nm) : fd (st.fs.map DF.fe) s = (fdD st s).map DF.fe := by
  unfold fd fdD
  rw [List.find?_map]
  rfl
theorem ent_at {es : List MapEntry} {fs : List DF} (h : es.map (fun e => (e.key, e.val)) = fs.map fun f => (nmV f.s, f.val)) {j : Nat} {f : DF} (hj : fs[j]? = some f) : ∃ e, es[j]? = some e ∧ e.key = nmV f.s ∧ e.val = f.val := by
  have h1 := congrArg (fun l => l[j]?) h
  simp only [List.getElem?_map, hj, Option.map_some] at h1
  cases h2 : es[j]? with
  | none => rw [h2] at h1; cases h1
  | some e =>
    rw [h2] at h1
    simp at h1
    exact ⟨e, rfl, h1⟩
theorem ent_of {es : List MapEntry} {fs : List DF} (h : es.map (fun e => (e.key, e.val)) = fs.map fun f => (nmV f.s, f.val)) {e : MapEntry} (he : e ∈ es) : ∃ f ∈ fs, e.key = nmV f.s ∧ e.val = f.val := by
  have h1 : (e.key, e.val) ∈ fs.map fun f => (nmV f.s, f.val) := by rw [← h]; exact List.mem_map.2 ⟨e, he, rfl⟩
  obtain ⟨f, hf, e1⟩ := List.mem_map.1 h1
  injection e1 with e1 e2
  exact ⟨f, hf, e1.symm, e2.symm⟩
theorem ent_none {es : List MapEntry} {fs : List DF} (h : es.map (fun e => (e.key, e.val)) = fs.map fun f => (nmV f.s, f.val)) {s : Nm} (hno : ∀ f ∈ fs, f.s ≠ s) : ∀ e ∈ es, e.key ≠ nmV s := by
  intro e he hk
  obtain ⟨f, hf, e1, _⟩ := ent_of h he
  exact hno f hf (nmV_inj (e1.symm.trans hk))
/-- What a look-up tells. -/
def lookV : Option DF → Value
  | some f => f.val
  | none => .pointer none
theorem DskAt.look {w : World} {D : Nat} {st : DSt} (h : DskAt w D st) (s : Nm) (hs : s.length ≤ maxLen) (W : World) (hW : W.heap = w.heap) :
    (Instr.lookup 46 (.map (some st.m)) (nmV s) false).run Tryz.prog W = .ok (lookV (fdD st s)) W := by
  obtain ⟨es, ck, h1, h2, h3⟩ := h.map
  obtain ⟨l, hl⟩ := nmKey s hs
  rw [← hW] at h1
  cases hr : fdD st s with
  | none => exact run_look_none strLaw mapTy h1 h2 hl (ent_none h3 (fdD_none hr)) (zeroPtr W)
  | some f =>
    obtain ⟨hm, rfl⟩ := fdD_some hr
    obtain ⟨j, hj⟩ := List.mem_iff_getElem?.1 hm
    obtain ⟨e, he, k1, k2⟩ := ent_at h3 hj
    rw [run_look_some strLaw mapTy h1 h2 hl he k1, k2]
    rfl
/-- A file is turned; its struct stays where it is. -/
theorem DskAt.setFile {w w' : World} {D : Nat} {st : DSt} (h : DskAt w D st) {j : Nat} {f f' : DF} (hj : st.fs[j]? = some f) (e1 : f'.s = f.s) (e2 : f'.g = f.g) (hf : FAt w' f')
    (hnew : ∀ b, f'.dv.ownBlock = some b → f.dv.ownBlock = some b ∨ w.heap.size ≤ b) (hk : ∀ k, k < w.heap.size → k ≠ f.g → f.dv.ownBlock ≠ some k → w'.heap[k]? = w.heap[k]?) (hs : w.heap.size ≤ w'.heap.size) :
    DskAt w' D ⟨st.m, st.room, st.fs.set j f'⟩ := by
  obtain ⟨es, ck, h1, h2, h3⟩ := h.map
  have hmem := List.mem_of_getElem? hj
  have hD := h.notOwn
  refine ⟨(hk D h.dsk.lt (fun e => hD (.inr ⟨f, hmem, .inl e.symm⟩)) (fun e => hD (.inr ⟨f, hmem, .inr e⟩))).trans h.dsk, ⟨es, ck, (hk _ h.mlt (fun e => h.mg hmem e.symm) (h.md hmem)).trans h1, h2, ?_⟩, fun x hx => ?_, ?_⟩
  · rw [h3]
    refine List.ext_getElem? fun i => ?_
    rw [List.getElem?_map, List.getElem?_map, List.getElem?_set]
    by_cases hi : j = i
    · subst hi; rw [if_pos rfl, if_pos (List.getElem?_eq_some_iff.1 hj).1, hj]; simp [e1, e2, DF.val]
    · rw [if_neg hi]
  · obtain ⟨i, hi⟩ := List.mem_iff_getElem?.1 hx
    rw [List.getElem?_set] at hi
    by_cases hij : j = i
    · subst hij
      rw [if_pos rfl, if_pos (List.getElem?_eq_some_iff.1 hj).1] at hi
      injection hi with hi
      rw [← hi]; exact hf
    · rw [if_neg hij] at hi
      have hs' := h.sep hi hj (fun e => hij e.symm)
      have hxm := List.mem_of_getElem? hi
      exact (h.file x hxm).keep (hk _ (h.file x hxm).bk.lt hs'.1 (h.gd hxm hmem)) (fun b hb => hk b ((h.file x hxm).dlt hb) (fun e => h.gd hmem hxm (e ▸ hb)) (fun e => hs'.2 b hb e)) hs
  · rw [List.pairwise_iff_getElem]
    intro a b ha hb hab
    simp at ha hb
    rw [List.getElem_set, List.getElem_set]
    have key : ∀ i x, i ≠ j → st.fs[i]? = some x → FSep f' x := by
      intro i x hij hi
      have hs' := h.sep hj hi (fun e => hij e.symm)
      have hxm := List.mem_of_getElem? hi
      refine ⟨by rw [e2]; exact hs'.1, fun k k1 k2 => ?_⟩
      rcases hnew k k1 with q | q
      · exact hs'.2 k q k2
      · have := (h.file x hxm).dlt k2; omega
    split
    · next q =>
      rw [if_neg (by omega)]
      exact key b _ (by omega) (List.getElem?_eq_getElem hb)
    · next q =>
      split
      · next q' => exact (key a _ (by omega) (List.getElem?_eq_getElem ha)).symm
      · exact List.pairwise_iff_getElem.1 h.apart a b ha hb hab
/-- A file of a new name. -/
theorem DskAt.pushFile {w w' : World} {D : Nat} {st : DSt} (h : DskAt w D st) {f' : DF} (hno : ∀ f ∈ st.fs, f.s ≠ f'.s) (hf : FAt w' f') (hg : w.heap.size ≤ f'.g)
    (hnew : ∀ b, f'.dv.ownBlock = some b → w.heap.size ≤ b) (hk : ∀ k, k < w.heap.size → k ≠ st.m → w'.heap[k]? = w.heap[k]?) (hs : w.heap.size ≤ w'.heap.size)
    (hm : ∀ (es : List MapEntry) (ck : Nat), w.heap[st.m]? = some (.map es.toArray ck) → w'.heap[st.m]? = some (.map (es ++ [({ key := nmV f'.s, val := f'.val, born := ck } : MapEntry)]).toArray (ck + 1))) :
    DskAt w' D ⟨st.m, st.room, st.fs ++ [f']⟩ := by
  obtain ⟨es, ck, h1, h2, h3⟩ := h.map
  obtain ⟨l, hl⟩ := nmKey f'.s (by have := hf.sl; unfold maxLen; omega)
  refine ⟨(hk D h.dsk.lt (fun e => h.notOwn (.inl e))).trans h.dsk, ⟨_, _, hm es ck h1, h2.push hl (ent_none h3 hno) _, by simp [h3]⟩, fun x hx => ?_, ?_⟩
  · rcases List.mem_append.1 hx with hx | hx
    · exact (h.file x hx).keep (hk _ (h.file x hx).bk.lt (h.mg hx)) (fun b hb => hk b ((h.file x hx).dlt hb) (fun e => h.md hx (e ▸ hb))) hs
    · simp at hx; rw [hx]; exact hf
  · refine List.pairwise_append.2 ⟨h.apart, List.pairwise_singleton _ _, fun x hx y hy => ?_⟩
    simp at hy
    subst hy
    refine ⟨fun e => ?_, fun k k1 k2 => ?_⟩
    · have := (h.file x hx).bk.lt; omega
    · have := (h.file x hx).dlt k1; have := hnew k k2; omega
/-- A file is taken away. -/
theorem DskAt.eraseFile {w w' : World} {D : Nat} {st : DSt} (h : DskAt w D st) {j : Nat} (hk : ∀ k, k < w.heap.size → k ≠ st.m → w'.heap[k]? = w.heap[k]?) (hs : w.heap.size ≤ w'.heap.size)
    (hm : ∀ (es : List MapEntry) (ck : Nat), w.heap[st.m]? = some (.map es.toArray ck) → w'.heap[st.m]? = some (.map (es.eraseIdx j).toArray ck)) : DskAt w' D ⟨st.m, st.room, st.fs.eraseIdx j⟩ := by
  obtain ⟨es, ck, h1, h2, h3⟩ := h.map
  have hsub : ∀ x, x ∈ st.fs.eraseIdx j → x ∈ st.fs := fun x hx => (List.eraseIdx_sublist _ _).subset hx
  refine ⟨(hk D h.dsk.lt (fun e => h.notOwn (.inl e))).trans h.dsk, ⟨_, _, hm es ck h1, h2.erase j, ?_⟩, fun x hx => ?_, h.apart.sublist (List.eraseIdx_sublist _ _)⟩
  · have e1 : ∀ {α β : Type} (g : α → β) (l : List α), (l.eraseIdx j).map g = (l.map g).eraseIdx j := by
      intro α β g l
      refine List.ext_getElem? fun i => ?_
      rw [List.getElem?_map, List.getElem?_eraseIdx, List.getElem?_eraseIdx]
      split <;> rw [List.getElem?_map]
    rw [e1, e1, h3]
  · have hx := hsub x hx
    exact (h.file x hx).keep (hk _ (h.file x hx).bk.lt (h.mg hx)) (fun b hb => hk b ((h.file x hx).dlt hb) (fun e => h.md hx (e ▸ hb))) hs
end Go.Proofs.YtcmbeolicopicaaGreat
