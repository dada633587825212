/- disk: the document's put, at a name that is not. -/
import Derived.Test.YtcmbeolicopicaaGreatZ10
namespace Go.Proofs.YtcmbeolicopicaaGreat
open Go.RowKit Go.Maps Go.ChangeMaps
set_option linter.unusedVariables false
set_option linter.unusedSectionVars false
set_option linter.unusedSimpArgs false
set_option maxRecDepth 100000

section
variable {P : Program} (w : World)
/-- Append onto a slice that has a block: where the result lies. -/
theorem run_append_loc (t ty e : TypeId) (i : TypeInfo) (z : Value) (size bytes : Nat) (ht : P.underlying t = some (.slice e)) (hi : P.info? e = some i) (hz : i.zero = some z)
    (hsize : i.size = size) (hby : i.bytes = bytes) (hzs : z.cells.size = size)
    (base : Nat) (v : Value) (n : Nat) (xs : List Value) (hown : w.ownsRow base e size v n xs) (hbase : base ≤ w.heap.size) (hv : v.ownBlock ≠ none)
    (A : Option Addr) (m c : Nat) (news : List Value) (hl : news.length = m * size) (hnone : A = none → m = 0 ∧ c = 0) (hnews : ∀ ad, A = some ad → ∀ j u, news[j]? = some u → w.cell? (ad.add j) = some u) (h1 : ∀ u ∈ news, u.oneCell' = true)
    (h63 : n + m ≤ maxLen) (hbytes : (n + m) * bytes ≤ 140737488355328) :
    ∃ v' w' g', (Builtin.append_ #[t, t] ty #[v, .slice A m c]).run P w = .ok v' w' ∧ w'.ownsRow base e size v' (n + m) (xs ++ news) ∧ w.grownBy w' v.ownBlock ∧ v'.ownBlock = some g' ∧
      (g' = w.heap.size ∨ v.ownBlock = some g') := by
  cases A with
  | none =>
    obtain ⟨rfl, rfl⟩ := hnone rfl
    have hn : news = [] := List.eq_nil_of_length_eq_zero (by simpa using hl)
    subst hn
    cases hg : v.ownBlock with
    | none => exact absurd hg hv
    | some g' => exact ⟨v, w, g', run_append_owned_none (P := P) w base t ty e i size ht hi v n xs hown, by simpa using hown, ⟨rfl, rfl, rfl, Nat.le_refl _, fun _ _ _ => rfl⟩, hg, .inr rfl⟩
  | some a =>
    have hnews := hnews a rfl
    subst hsize
    subst hby
    have hsmall : n + m ≤ 9223372036854775807 := by simp only [maxLen] at h63; omega
    have hlen : (xs ++ news).length = (n + m) * i.size := by rw [List.length_append, hown.1, hl, Nat.add_mul]
    have grown : ∀ (old : Nat) (row : Option Nat),
        (w.drew.alloc (.cells (xs.toArray ++ news.toArray ++ Builtin.zeroCells z.cells (grownCap w (n + m) old e - (n + m))) e)).ownsRow base e i.size
          (.slice (some ⟨w.heap.size, 0, none⟩) (n + m) (grownCap w (n + m) old e)) (n + m) (xs ++ news) ∧
        w.grownBy (w.drew.alloc (.cells (xs.toArray ++ news.toArray ++ Builtin.zeroCells z.cells (grownCap w (n + m) old e - (n + m))) e)) row := by
      intro old row
      have hge := grownCap_ge w (n + m) old e
      refine ⟨⟨hlen, .inr ⟨_, _, _, rfl, hbase, heap_alloc_new w.drew _, hge, grownCap_le_maxLen w (n + m) old e h63, ?_, ?_⟩⟩, ⟨rfl, rfl, rfl, by simp, fun k hk _ => heap_alloc_old w.drew _ hk⟩⟩
      · simp only [Array.size_append, List.size_toArray, size_zeroCells, hzs, hown.1, hl, ← Nat.add_mul]
        congr 1
        omega
      · simp only [Array.toList_append, List.append_assoc]
        rw [← List.append_assoc, ← hlen]
        exact List.take_left
    rcases hown.2 with ⟨rfl, rfl⟩ | ⟨g, cap, cur, rfl, hb, hg, hnc, hcm, hcs, htake⟩
    · exact absurd rfl hv
    · by_cases hroom : n + m ≤ cap
      · have hfit : n * i.size + news.length ≤ cur.size := by rw [hl, hcs, ← Nat.add_mul]; exact Nat.mul_le_mul_right _ hroom
        have hr := run_append_room (P := P) w t ty e i ht hi g n cap cur hg a m c news hl hnews h1 hroom hfit
        refine ⟨_, _, g, hr, ⟨hlen, .inr ⟨g, cap, _, rfl, hb, setRow_heap w g cur _ e _ hg, hroom, hcm, ?_, ?_⟩⟩, ⟨rfl, rfl, rfl, by simp, fun k _ hk => setRow_other w g k _ (fun e => hk (by simp [Value.ownBlock, e]))⟩, rfl, .inr rfl⟩
        · simp only [List.size_toArray, List.length_append, List.length_take, List.length_drop, Array.length_toList]
          omega
        · rw [htake, ← hlen]
          exact List.take_left
      · have holds := World.ownsRow.cells (g := g) hown rfl
        have hr := run_append_grow (P := P) w t ty e i z ht hi hz ⟨g, 0, none⟩ n cap xs hown.1 holds a m c news hl hnews (by omega) (by omega) (growslice_fits (by omega) hbytes)
        have hgr := grown cap (Value.ownBlock (.slice (some ⟨g, 0, none⟩) n cap))
        exact ⟨_, _, _, hr, hgr.1, hgr.2, rfl, .inl rfl⟩
theorem step_append_loc {ops : Array Oper} {o : Oper} {a : Act} {K : Act → World → Prop} {Q : Exit → Act → World → Prop} {E : Prop} (hgd : o.guard = none) (s x : Operand) (t : TypeId)
    (ho : o.op = .call { callee := .builtin .append, args := #[s, x], argTypes := #[t, t] })
    (e : TypeId) (i : TypeInfo) (z : Value) (size bytes : Nat) (ht : P.underlying t = some (.slice e)) (hi : P.info? e = some i) (hz : i.zero = some z)
    (hsize : i.size = size) (hby : i.bytes = bytes) (hzs : z.cells.size = size)
    (base : Nat) (v : Value) (n : Nat) (xs : List Value) (hs : a.eval s = v) (hown : w.ownsRow base e size v n xs) (hbase : base ≤ w.heap.size) (hv : v.ownBlock ≠ none)
    (A : Option Addr) (m c : Nat) (news : List Value) (hx : a.eval x = .slice A m c) (hl : news.length = m * size) (hnone : A = none → m = 0 ∧ c = 0) (hnews : ∀ ad, A = some ad → ∀ j u, news[j]? = some u → w.cell? (ad.add j) = some u) (h1 : ∀ u ∈ news, u.oneCell' = true)
    (h63 : n + m ≤ maxLen) (hbytes : (n + m) * bytes ≤ 140737488355328)
    (h : ∀ v' w' g', w'.ownsRow base e size v' (n + m) (xs ++ news) → w.grownBy w' v.ownBlock → v'.ownBlock = some g' → (g' = w.heap.size ∨ v.ownBlock = some g') → K (a.put o.dst v') w') :
    if Region.wanted o (yielded ops a.tmps) = true then Oper.wp P o a w K Q else E := by
  have hw : Region.wanted o (yielded ops a.tmps) = true := by simp [Region.wanted, hgd]
  rw [if_pos hw]
  obtain ⟨v', w', g', hr, h2, h3, h4, h5⟩ := run_append_loc (P := P) w t o.type e i z size bytes ht hi hz hsize hby hzs base v n xs hown hbase hv A m c news hl hnone hnews h1 h63 hbytes
  unfold Oper.wp execOp
  simp only [ho, resolve, invoke, builtin, Sem.run_bind, Sem.run_pure, Result.andThen_ok, List.map_toArray, List.map_cons, List.map_nil, hs, hx, hr]
  exact h v' w' g' h2 h3 h4 h5
end
/-- A row cut to its first elements. -/
theorem owns_cut {w : World} {base e size n c : Nat} {A : Option Addr} {xs : List Value} (h : w.ownsRow base e size (.slice A n c) n xs) {i : Nat} (hi : i ≤ n) : w.ownsRow base e size (.slice A i c) i (xs.take (i * size)) := by
  have hle : i * size ≤ n * size := Nat.mul_le_mul_right _ hi
  refine ⟨by rw [List.length_take, h.1]; omega, ?_⟩
  rcases h.2 with ⟨h', hn⟩ | ⟨g', cap, cur, h', hb, hg, h1, h2, h3, h4⟩
  · injection h' with e1 e2 e3
    subst e1 e3
    exact .inl ⟨by rw [show i = 0 by omega], by omega⟩
  · injection h' with e1 _ e3
    subst e1 e3
    exact .inr ⟨g', c, cur, rfl, hb, hg, by omega, h2, h3, by rw [← h4, List.take_take, Nat.min_eq_left hle]⟩
section
variable {B : Nat → Prop} {X n : Nat} {room : Int} {P : List RF} {v : Value} {w : World} (h : RD B X room P n v w)
include h
theorem RD.far {W : World} (hfar : ∀ k, k < w.heap.size → v.ownBlock ≠ some k → W.heap[k]? = w.heap[k]?) (hs : w.heap.size ≤ W.heap.size) : ∀ f ∈ P, Dat W (fun b => B b ∨ w.heap.size ≤ b) f.A f.c f.l := by
  intro f hf
  refine (h.dat f hf).narrow.keep (fun b q hb => hfar b hb fun e => ?_) hs (fun b q _ => .inl q.1)
  rcases h.row.2 with ⟨q', _⟩ | ⟨g', cap, cur, q', _, hg, _⟩
  · rw [q'] at e; cases e
  · rw [q'] at e
    have e : g' = b := Option.some.inj e
    exact ub_ne q.2 hg (by decide) e.symm
/-- The disk's row is another one. -/
theorem RD.resetB {P' : List RF} {v' : Value} {n' : Nat} {W : World} (hrow : W.ownsRow 0 67 3 v' P'.length (rfV P')) (hloc : ∀ g', v'.ownBlock = some g' → v.ownBlock = some g' ∨ w.heap.size ≤ g')
    (hfar : ∀ k, k < w.heap.size → v.ownBlock ≠ some k → W.heap[k]? = w.heap[k]?) (hs : w.heap.size ≤ W.heap.size) (ho : W.os = w.os ∧ W.tape = w.tape ∧ W.output = w.output)
    (hdat : ∀ f ∈ P', Dat W (fun b => B b ∨ w.heap.size ≤ b) f.A f.c f.l) (hsrt : Srt (P'.map RF.fe)) (hlen : ∀ f ∈ P', f.l.length ≤ 8388608 ∧ f.n ≤ f.l.length ∧ f.s.length ≤ 24) (hfew : P'.length ≤ n') (hnn : n' ≤ 1000000) :
    RDB (fun k => (B k ∨ w.heap.size ≤ k) ∧ k < (W.setCell ⟨X, 0, none⟩ v').heap.size) X room (P'.map RF.fe) n' (W.setCell ⟨X, 0, none⟩ v') ∧ Lv B w (W.setCell ⟨X, 0, none⟩ v') := by
  have hsz : (W.setCell ⟨X, 0, none⟩ v').heap.size = W.heap.size := by simp [World.setCell]
  have hXv : v.ownBlock ≠ some X := by
    intro e
    rcases h.row.2 with ⟨q', _⟩ | ⟨g', cap, cur, q', _, hg, _⟩
    · rw [q'] at e; cases e
    · rw [q'] at e
      have e : g' = X := Option.some.inj e
      have hb := h.bk
      unfold Bk at hb
      rw [e] at hg
      rw [hb] at hg
      injection hg with hg
      injection hg with _ hg
      exact absurd hg (by decide)
  have hXW : Bk W X 53 [v, .int .i64 room] := (hfar X (h.lt X h.hX) hXv).trans h.bk
  have hXv' : ∀ g', v'.ownBlock = some g' → g' ≠ X := by
    rintro g' e rfl
    rcases hrow.2 with ⟨q', _⟩ | ⟨g2, cap, cur, q', _, hg, _⟩
    · rw [q'] at e; cases e
    · rw [q'] at e
      have e : g2 = g' := Option.some.inj e
      have hb := hXW
      unfold Bk at hb
      rw [e] at hg
      rw [hb] at hg
      injection hg with hg
      injection hg with _ hg
      exact absurd hg (by decide)
  have hW' : ∀ k, k ≠ X → (W.setCell ⟨X, 0, none⟩ v').heap[k]? = W.heap[k]? := fun k hk => Below.heap_setCell W _ _ k hk
  rw [hsz]
  refine ⟨⟨P', v', ⟨?_, ?_, fun k e => ?_, ⟨.inl h.hX, Nat.lt_of_lt_of_le (h.lt X h.hX) hs⟩, fun k q => by rw [hsz]; exact q.2, fun f hf => ?_, hsrt, hlen, hfew, hnn⟩, rfl⟩, ⟨ho.1, ho.2.1, ho.2.2, by rw [hsz]; exact hs, fun k k1 k2 => ?_⟩⟩
  · exact hXW.set 0 v'
  · exact owns_keep hrow (fun g e => hW' g (hXv' g e))
  · exact ⟨(hloc k e).imp (h.own k) id, owns_lt hrow k e⟩
  · refine (hdat f hf).narrow.keep (fun b q hb => hW' b (ub_ne q.2 hXW (by decide))) (by rw [hsz]; exact Nat.le_refl _) (fun b q hb => ⟨q.1, hb⟩)
  · rw [hW' k (fun e => k2 (e ▸ h.hX))]
    exact hfar k k1 (fun e => k2 (h.own k e))
/-- The disk's row is another one. -/
theorem RD.reset {P' : List RF} {v' : Value} {n' : Nat} {W : World} (hrow : W.ownsRow 0 67 3 v' P'.length (rfV P')) (hloc : ∀ g', v'.ownBlock = some g' → v.ownBlock = some g' ∨ w.heap.size ≤ g')
    (hfar : ∀ k, k < w.heap.size → v.ownBlock ≠ some k → W.heap[k]? = w.heap[k]?) (hs : w.heap.size ≤ W.heap.size) (ho : W.os = w.os ∧ W.tape = w.tape ∧ W.output = w.output)
    (hdat : ∀ f ∈ P', Dat W (fun b => B b ∨ w.heap.size ≤ b) f.A f.c f.l) (hsrt : Srt (P'.map RF.fe)) (hlen : ∀ f ∈ P', f.l.length ≤ 8388608 ∧ f.n ≤ f.l.length ∧ f.s.length ≤ 24) (hfew : P'.length ≤ n') (hnn : n' ≤ 1000000) :
    RDid B X room (P'.map RF.fe) n' w (W.setCell ⟨X, 0, none⟩ v') :=
  have q := h.resetB hrow hloc hfar hs ho hdat hsrt hlen hfew hnn
  ⟨_, fun k q => q.1, q.1, q.2⟩
end
end Go.Proofs.YtcmbeolicopicaaGreat

