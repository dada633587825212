/- Lists that are marked and grown, each in a block of its own: no program. -/
import Derived.Test.YtenkhbiikecegaaGreatKMark
namespace Go.Proofs.YtenkhbiikecegaaGreat
open Go.RowKit
set_option linter.unusedVariables false
set_option maxRecDepth 100000

/-- What append does to a row: it lies where it was, with its capacity, and what began there reads as it did; or all old blocks are as they were. -/
structure Grew (w w' : World) (e : TypeId) (size : Nat) (v v' : Value) (g g' n m : Nat) : Prop where
  gr : w.grownBy w' v.ownBlock
  own : v'.ownBlock = some g'
  lt : g' < w'.heap.size
  how : (g' = w.heap.size ∧ ∀ b, b < w.heap.size → w'.heap[b]? = w.heap[b]?) ∨
    (g' = g ∧ ∃ cap, v = .slice (some ⟨g, 0, none⟩) n cap ∧ v' = .slice (some ⟨g, 0, none⟩) (n + m) cap ∧ ∀ n0 ys, n0 ≤ n → Row w e size (.slice (some ⟨g, 0, none⟩) n0 cap) g n0 ys → Row w' e size (.slice (some ⟨g, 0, none⟩) n0 cap) g n0 ys)

section
variable {P : Program} (w : World)
theorem run_append_grew (t ty e : TypeId) (i : TypeInfo) (z : Value) (size bytes : Nat) (ht : P.underlying t = some (.slice e)) (hi : P.info? e = some i) (hz : i.zero = some z)
    (hsize : i.size = size) (hby : i.bytes = bytes) (hzs : z.cells.size = size)
    (v : Value) (g n : Nat) (xs : List Value) (hown : Row w e size v g n xs)
    (a : Addr) (m c : Nat) (news : List Value) (hl : news.length = m * size) (hnews : ∀ j u, news[j]? = some u → w.cell? (a.add j) = some u) (h1 : ∀ u ∈ news, u.oneCell' = true)
    (h63 : n + m ≤ maxLen) (hbytes : (n + m) * bytes ≤ 140737488355328) (hm : 0 < m) :
    ∃ v' w' g', (Builtin.append_ #[t, t] ty #[v, .slice (some a) m c]).run P w = .ok v' w' ∧ Row w' e size v' g' (n + m) (xs ++ news) ∧ Grew w w' e size v v' g g' n m := by
  subst hsize
  subst hby
  have hsmall : n + m ≤ 9223372036854775807 := by simp only [maxLen] at h63; omega
  have hlen : (xs ++ news).length = (n + m) * i.size := by rw [List.length_append, hown.1, hl, Nat.add_mul]
  have grown : ∀ (old : Nat) (row : Option Nat),
      Row (w.drew.alloc (.cells (xs.toArray ++ news.toArray ++ Builtin.zeroCells z.cells (grownCap w (n + m) old e - (n + m))) e)) e i.size
        (.slice (some ⟨w.heap.size, 0, none⟩) (n + m) (grownCap w (n + m) old e)) w.heap.size (n + m) (xs ++ news) ∧
      w.grownBy (w.drew.alloc (.cells (xs.toArray ++ news.toArray ++ Builtin.zeroCells z.cells (grownCap w (n + m) old e - (n + m))) e)) row := by
    intro old row
    have hge := grownCap_ge w (n + m) old e
    refine ⟨⟨hlen, .inr ⟨_, _, rfl, heap_alloc_new w.drew _, hge, grownCap_le_maxLen w (n + m) old e h63, ?_, fun _ => ?_⟩⟩, ⟨rfl, rfl, rfl, by simp, fun k hk _ => heap_alloc_old w.drew _ hk⟩⟩
    · simp only [Array.toList_append, List.append_assoc]
      rw [← List.append_assoc, ← hlen]
      exact List.take_left
    · simp only [Array.size_append, List.size_toArray, size_zeroCells, hzs, hown.1, hl, ← Nat.add_mul]
      congr 1
      omega
  rcases hown.2 with ⟨rfl, rfl⟩ | ⟨cap, cur, rfl, hg, hnc, hcm, htake, hcs⟩
  · have hx : xs = [] := List.eq_nil_of_length_eq_zero (by simpa using hown.1)
    subst hx
    have hr := run_append_nil (P := P) w t ty e i z ht hi hz a m c news hl hnews hm (by omega) (by have hb := hbytes; simp only [Nat.zero_add] at hb; omega)
    have hgr := grown 0 (Value.ownBlock (.slice none 0 0))
    simp only [Nat.zero_add, List.nil_append, Array.empty_append] at hgr ⊢
    exact ⟨_, _, _, hr, hgr.1, ⟨hgr.2, rfl, by simp, .inl ⟨rfl, fun b hb => heap_alloc_old w.drew _ hb⟩⟩⟩
  · by_cases hroom : n + m ≤ cap
    · have hcs' := hcs (by omega)
      have hfit : n * i.size + news.length ≤ cur.size := by rw [hl, hcs', ← Nat.add_mul]; exact Nat.mul_le_mul_right _ hroom
      have hr := run_append_room (P := P) w t ty e i ht hi g n cap cur hg a m c news hl hnews h1 hroom hfit
      refine ⟨_, _, g, hr, ⟨hlen, .inr ⟨cap, _, rfl, setRow_heap w g cur _ e _ hg, hroom, hcm, ?_, fun _ => ?_⟩⟩, ⟨⟨rfl, rfl, rfl, by simp, fun k _ hk => setRow_other w g k _ (fun e => hk (by simp [Value.ownBlock, e]))⟩, rfl, ?_, .inr ⟨rfl, cap, rfl, rfl, fun n0 ys hn0 hR => ?_⟩⟩⟩
      · rw [htake, ← hlen]
        exact List.take_left
      · simp only [List.size_toArray, List.length_append, List.length_take, List.length_drop, Array.length_toList]
        omega
      · have := (Array.getElem?_eq_some_iff.1 hg).1
        simpa using this
      · refine ⟨hR.1, ?_⟩
        rcases hR.2 with ⟨h, _⟩ | ⟨cap', cur', h, hg', q1, q2, q3, q4⟩
        · cases h
        · injection h with _ _ h
          subst h
          rw [hg] at hg'
          injection hg' with hg'
          injection hg' with hg'
          subst hg'
          refine .inr ⟨cap, _, rfl, setRow_heap w g cur _ e _ hg, q1, q2, ?_, fun _ => ?_⟩
          · have hle : n0 * i.size ≤ n * i.size := Nat.mul_le_mul_right _ hn0
            have hxl := hown.1
            simp only [htake, List.append_assoc]
            rw [List.take_append_of_le_length (by omega), ← q3, ← htake, List.take_take, Nat.min_eq_left hle]
          · simp only [List.size_toArray, List.length_append, List.length_take, List.length_drop, Array.length_toList]
            omega
    · have holds := hown.cells (by simp [Value.ownBlock])
      have hr := run_append_grow (P := P) w t ty e i z ht hi hz ⟨g, 0, none⟩ n cap xs hown.1 holds a m c news hl hnews (by omega) (by omega) (growslice_fits (by omega) hbytes)
      have hgr := grown cap (Value.ownBlock (.slice (some ⟨g, 0, none⟩) n cap))
      exact ⟨_, _, _, hr, hgr.1, ⟨hgr.2, rfl, by simp, .inl ⟨rfl, fun b hb => heap_alloc_old w.drew _ hb⟩⟩⟩
theorem wpList_append_grew {ops : Array Oper} {rest : List Oper} {o : Oper} {a : Act} {Q : Exit → Act → World → Prop} (hgd : o.guard = none) (s x : Operand) (t : TypeId)
    (ho : o.op = .call { callee := .builtin .append, args := #[s, x], argTypes := #[t, t] })
    (e : TypeId) (i : TypeInfo) (z : Value) (size bytes : Nat) (ht : P.underlying t = some (.slice e)) (hi : P.info? e = some i) (hz : i.zero = some z)
    (hsize : i.size = size) (hby : i.bytes = bytes) (hzs : z.cells.size = size)
    (v : Value) (g n : Nat) (xs : List Value) (hs : a.eval s = v) (hown : Row w e size v g n xs)
    (ad : Addr) (m c : Nat) (news : List Value) (hx : a.eval x = .slice (some ad) m c) (hl : news.length = m * size) (hnews : ∀ j u, news[j]? = some u → w.cell? (ad.add j) = some u) (h1 : ∀ u ∈ news, u.oneCell' = true)
    (h63 : n + m ≤ maxLen) (hbytes : (n + m) * bytes ≤ 140737488355328) (hm : 0 < m)
    (h : ∀ v' w' g', Row w' e size v' g' (n + m) (xs ++ news) → Grew w w' e size v v' g g' n m → wpList P ops Q rest (a.put o.dst v') w') : wpList P ops Q (o :: rest) a w := by
  refine wpList_plain hgd fun K hK => ?_
  obtain ⟨v', w', g', hr, h2, h3⟩ := run_append_grew (P := P) w t o.type e i z size bytes ht hi hz hsize hby hzs v g n xs hown ad m c news hl hnews h1 h63 hbytes hm
  unfold Oper.wp execOp
  simp only [ho, resolve, invoke, builtin, Sem.run_bind, Sem.run_pure, Result.andThen_ok, List.map_toArray, List.map_cons, List.map_nil, hs, hx, hr]
  exact hK _ _ (h v' w' g' h2 h3)
/-- .. at a step of a region that draws its order. -/
theorem step_append_grew {ops : Array Oper} {o : Oper} {a : Act} {K : Act → World → Prop} {Q : Exit → Act → World → Prop} {E : Prop} (hgd : o.guard = none) (s x : Operand) (t : TypeId)
    (ho : o.op = .call { callee := .builtin .append, args := #[s, x], argTypes := #[t, t] })
    (e : TypeId) (i : TypeInfo) (z : Value) (size bytes : Nat) (ht : P.underlying t = some (.slice e)) (hi : P.info? e = some i) (hz : i.zero = some z)
    (hsize : i.size = size) (hby : i.bytes = bytes) (hzs : z.cells.size = size)
    (v : Value) (g n : Nat) (xs : List Value) (hs : a.eval s = v) (hown : Row w e size v g n xs)
    (ad : Addr) (m c : Nat) (news : List Value) (hx : a.eval x = .slice (some ad) m c) (hl : news.length = m * size) (hnews : ∀ j u, news[j]? = some u → w.cell? (ad.add j) = some u) (h1 : ∀ u ∈ news, u.oneCell' = true)
    (h63 : n + m ≤ maxLen) (hbytes : (n + m) * bytes ≤ 140737488355328) (hm : 0 < m)
    (h : ∀ v' w' g', Row w' e size v' g' (n + m) (xs ++ news) → Grew w w' e size v v' g g' n m → K (a.put o.dst v') w') :
    if Region.wanted o (yielded ops a.tmps) = true then Oper.wp P o a w K Q else E := by
  have hw : Region.wanted o (yielded ops a.tmps) = true := by simp [Region.wanted, hgd]
  rw [if_pos hw]
  obtain ⟨v', w', g', hr, h2, h3⟩ := run_append_grew (P := P) w t o.type e i z size bytes ht hi hz hsize hby hzs v g n xs hown ad m c news hl hnews h1 h63 hbytes hm
  unfold Oper.wp execOp
  simp only [ho, resolve, invoke, builtin, Sem.run_bind, Sem.run_pure, Result.andThen_ok, List.map_toArray, List.map_cons, List.map_nil, hs, hx, hr]
  exact h v' w' g' h2 h3
end

/-- A list of lists: its slice, its block, its length. -/
structure Fs where
  v : Value
  b : Nat
  n : Nat
/-- Lists of elements, each in a block of its own, of which S holds, with the cells C k. -/
structure Fl (w : World) (e : TypeId) (size : Nat) (S : Nat → Prop) (ls : List Fs) (C : Nat → List Value) : Prop where
  row : ∀ (k : Nat) (x : Fs), ls[k]? = some x → Row w e size x.v x.b x.n (C k)
  own : ∀ (k : Nat) (x : Fs), ls[k]? = some x → x.v.ownBlock = some x.b → S x.b ∧ x.b < w.heap.size
  dis : ∀ (k k' : Nat) (x x' : Fs), ls[k]? = some x → ls[k']? = some x' → k ≠ k' → x.v.ownBlock = some x.b → x'.v.ownBlock = some x'.b → x.b ≠ x'.b
theorem Row.shape {w : World} {e : TypeId} {size : Nat} {v : Value} {g n : Nat} {xs : List Value} (h : Row w e size v g n xs) : ∃ A c, v = .slice A n c ∧ n ≤ c ∧ c ≤ maxLen ∧ (0 < n → A = some ⟨g, 0, none⟩) := by
  rcases h.2 with ⟨rfl, rfl⟩ | ⟨cap, cur, rfl, hg, h1, h2, _⟩
  · exact ⟨none, 0, rfl, Nat.le_refl _, by decide, fun h => absurd h (by omega)⟩
  · exact ⟨_, cap, rfl, h1, h2, fun _ => rfl⟩
theorem Row.set {w : World} {e : TypeId} {size : Nat} {v : Value} {g n : Nat} {xs : List Value} (h : Row w e size v g n xs) (j : Nat) (u : Value) (hj : j < n * size) : Row (w.setCell ⟨g, j, none⟩ u) e size v g n (xs.set j u) := by
  refine ⟨by simpa using h.1, ?_⟩
  rcases h.2 with ⟨rfl, rfl⟩ | ⟨cap, cur, rfl, hg, h1, h2, h3, h4⟩
  · simp at hj
  · refine .inr ⟨cap, _, rfl, heap_setCell_same _ _ _ _ _ _ hg, h1, h2, ?_, fun h => by simpa using h4 h⟩
    rw [← h3]
    simp [List.take_set]
theorem Fl.keep {w w' : World} {e : TypeId} {size : Nat} {S : Nat → Prop} {ls : List Fs} {C : Nat → List Value} (h : Fl w e size S ls C) (hk : ∀ b, S b → b < w.heap.size → w'.heap[b]? = w.heap[b]?) (hs : w.heap.size ≤ w'.heap.size) : Fl w' e size S ls C :=
  ⟨fun k x hx => (h.row k x hx).keep (fun e => let ⟨h1, h2⟩ := h.own k x hx e; hk _ h1 h2), fun k x hx e => let ⟨h1, h2⟩ := h.own k x hx e; ⟨h1, Nat.lt_of_lt_of_le h2 hs⟩, h.dis⟩
theorem Fl.below {w w' : World} {e : TypeId} {size : Nat} {S : Nat → Prop} {ls : List Fs} {C : Nat → List Value} (h : Fl w e size S ls C) (hb : Below w.heap.size w w') : Fl w' e size S ls C := h.keep (fun b _ hl => hb.block b hl) hb.size
theorem Fl.eq {w : World} {e : TypeId} {size : Nat} {S : Nat → Prop} {ls : List Fs} {C C' : Nat → List Value} (h : Fl w e size S ls C) (hC : ∀ (k : Nat) (x : Fs), ls[k]? = some x → C k = C' k) : Fl w e size S ls C' :=
  ⟨fun k x hx => by rw [← hC k x hx]; exact h.row k x hx, h.own, h.dis⟩
/-- The cells of list k, at j turned to u. -/
def updC (C : Nat → List Value) (k j : Nat) (u : Value) : Nat → List Value := fun q => if q = k then (C k).set j u else C q
theorem own_of_row {w : World} {e : TypeId} {size : Nat} {v : Value} {g n : Nat} {xs : List Value} (h : Row w e size v g n xs) {k : Nat} (hk : v.ownBlock = some k) : v.ownBlock = some g := by
  rcases h.2 with ⟨rfl, rfl⟩ | ⟨cap, cur, rfl, _⟩
  · cases hk
  · rfl
theorem Fl.set {w : World} {e : TypeId} {size : Nat} {S : Nat → Prop} {ls : List Fs} {C : Nat → List Value} (h : Fl w e size S ls C) {k : Nat} {x : Fs} (hx : ls[k]? = some x) (j : Nat) (u : Value) (hj : j < x.n * size) :
    Fl (w.setCell ⟨x.b, j, none⟩ u) e size S ls (updC C k j u) := by
  have hsz : (w.setCell ⟨x.b, j, none⟩ u).heap.size = w.heap.size := by simp [World.setCell]
  have hxo : x.v.ownBlock = some x.b := by
    rcases (h.row k x hx).2 with ⟨_, h0⟩ | ⟨cap, cur, e, _⟩
    · rw [h0] at hj; simp at hj
    · rw [e]; rfl
  refine ⟨fun q y hy => ?_, fun q y hy e => by rw [hsz]; exact h.own q y hy e, h.dis⟩
  by_cases hq : q = k
  · subst hq
    have : y = x := by rw [hx] at hy; injection hy with hy; exact hy.symm
    subst this
    simp only [updC, if_true]
    exact (h.row q y hy).set j u hj
  · simp only [updC, if_neg hq]
    exact (h.row q y hy).keep (fun e => Below.heap_setCell _ _ _ _ (h.dis q k y x hy hx hq e hxo))

/-- The marks of a list. -/
def mks (mk : Nat → Nat → List Value) (k n : Nat) : List Value := (List.range n).flatMap (mk k)
theorem mks_succ (mk : Nat → Nat → List Value) (k n : Nat) : mks mk k (n + 1) = mks mk k n ++ mk k n := by simp [mks, List.range_succ]
theorem mks_len {mk : Nat → Nat → List Value} {size : Nat} (hm : ∀ k i, (mk k i).length = size) (k n : Nat) : (mks mk k n).length = n * size := by
  induction n with
  | zero => simp [mks]
  | succ n ih => rw [mks_succ, List.length_append, ih, hm, Nat.succ_mul]
theorem mks_take {mk : Nat → Nat → List Value} {size : Nat} (hm : ∀ k i, (mk k i).length = size) (k n i : Nat) (h : i ≤ n) : (mks mk k n).take (i * size) = mks mk k i := by
  induction n with
  | zero => have : i = 0 := by omega
            subst this; simp [mks]
  | succ n ih =>
    rcases Nat.lt_or_ge i (n + 1) with h' | h'
    · have hle : i * size ≤ n * size := Nat.mul_le_mul_right _ (by omega)
      rw [mks_succ, List.take_append_of_le_length (by rw [mks_len hm]; exact hle)]
      exact ih (by omega)
    · have : i = n + 1 := by omega
      subst this
      rw [List.take_of_length_le (by rw [mks_len hm]; omega)]
theorem mks_get {mk : Nat → Nat → List Value} {size : Nat} (hm : ∀ k i, (mk k i).length = size) (k n i j : Nat) (h : i < n) (hj : j < size) : (mks mk k n)[i * size + j]? = (mk k i)[j]? := by
  have h1 := mks_take hm k n (i + 1) (by omega)
  have hlt : i * size + j < (i + 1) * size := by rw [Nat.succ_mul]; omega
  have h2 : ((mks mk k n).take ((i + 1) * size))[i * size + j]? = (mks mk k n)[i * size + j]? := by rw [List.getElem?_take, if_pos hlt]
  rw [← h2, h1, mks_succ, List.getElem?_append_right (by rw [mks_len hm]; omega), mks_len hm]
  congr 1
  omega

/-- What a list has grown into: m elements with the cells xs; it lies where the list lies, or in a block from N on that is not G. -/
structure GRow (w : World) (e : TypeId) (size : Nat) (N G : Nat) (x : Fs) (u : Value) (gb m : Nat) (xs : List Value) : Prop where
  row : Row w e size u gb m xs
  own : u.ownBlock = some gb
  lt : gb < w.heap.size
  at_ : (gb = x.b ∧ x.v.ownBlock = some x.b) ∨ (N ≤ gb ∧ gb ≠ G)
theorem GRow.keep {w w' : World} {e : TypeId} {size N G : Nat} {x : Fs} {u : Value} {gb m : Nat} {xs : List Value} (h : GRow w e size N G x u gb m xs) (hs : w.heap.size ≤ w'.heap.size) (hk : w'.heap[gb]? = w.heap[gb]?) : GRow w' e size N G x u gb m xs :=
  ⟨h.row.keep (fun _ => hk), h.own, Nat.lt_of_lt_of_le h.lt hs, h.at_⟩
/-- While a list grows: i elements more. wo: the world in which that began. -/
structure Inn (wo w : World) (e : TypeId) (size : Nat) (x : Fs) (u : Value) (gb i : Nat) (xs : List Value) : Prop where
  row : Row w e size u gb (x.n + i) xs
  at_ : (gb = x.b ∧ i = 0 ∧ u = x.v) ∨ (gb = x.b ∧ ∃ cap, x.v = .slice (some ⟨x.b, 0, none⟩) x.n cap ∧ u = .slice (some ⟨x.b, 0, none⟩) (x.n + i) cap) ∨ (wo.heap.size ≤ gb ∧ gb < w.heap.size ∧ u.ownBlock = some gb)
  ag : Ag (fun b => ¬ (b = x.b ∧ x.v.ownBlock = some x.b)) wo w
theorem Inn.start {w : World} {e : TypeId} {size : Nat} {S : Nat → Prop} {ls : List Fs} {C : Nat → List Value} {k : Nat} {x : Fs} (h : Fl w e size S ls C) (hx : ls[k]? = some x) : Inn w w e size x x.v x.b 0 (C k) :=
  ⟨h.row k x hx, .inl ⟨rfl, rfl, rfl⟩, Ag.refl _ _⟩
/-- One append more, of m elements. -/
theorem Inn.step {wo wr wa w3 : World} {e : TypeId} {size : Nat} {S : Nat → Prop} {ls : List Fs} {C : Nat → List Value} {k : Nat} {x : Fs} {u v' : Value} {gb g' i m : Nat} {xs ys : List Value}
    (hFo : Fl wo e size S ls C) (hF : Fl wr e size S ls C) (hx : ls[k]? = some x) (hI : Inn wo wr e size x u gb i xs) (hb : Below wr.heap.size wr wa)
    (hrow : Row w3 e size v' g' (x.n + i + m) ys) (hg : Grew wa w3 e size u v' gb g' (x.n + i) m) :
    Inn wo w3 e size x v' g' (i + m) ys ∧ Fl w3 e size S ls C := by
  have hos := hI.ag.size
  have has := hb.size
  have hgs := hg.gr.size
  have hxo : ∀ q, x.v.ownBlock = some q → x.v.ownBlock = some x.b := fun q hq => own_of_row (hF.row k x hx) hq
  have hub : ∀ q, u.ownBlock = some q → q = gb := by
    intro q hq
    have := own_of_row hI.row hq
    rw [this] at hq; injection hq with hq; exact hq.symm
  have hcase : ∀ q, u.ownBlock = some q → (q = x.b ∧ x.v.ownBlock = some x.b) ∨ wo.heap.size ≤ q := by
    intro q hq
    have hqg := hub q hq
    subst hqg
    rcases hI.at_ with ⟨h1, h2, h3⟩ | ⟨h1, cap, h2, h3⟩ | ⟨h1, h2, h3⟩
    · exact .inl ⟨h1, hxo q (by rw [← h3]; exact hq)⟩
    · exact .inl ⟨h1, by rw [h2]; rfl⟩
    · exact .inr h1
  have hag3 : Ag (fun b => ¬ (b = x.b ∧ x.v.ownBlock = some x.b)) wo w3 := (hI.ag.trans (Ag.of_below _ hb)).grown hg.gr (fun r hr hlt => by
    rcases hcase r hr with h | h
    · exact fun hn => hn h
    · omega)
  refine ⟨⟨by rw [← Nat.add_assoc]; exact hrow, ?_, hag3⟩, ?_⟩
  · rcases hg.how with ⟨h1, h2⟩ | ⟨h1, cap, h2, h3, h4⟩
    · exact .inr (.inr ⟨by omega, hg.lt, hg.own⟩)
    · rcases hI.at_ with ⟨e1, e2, e3⟩ | ⟨e1, cap', e2, e3⟩ | ⟨e1, e2, e3⟩
      · subst e2
        rw [e1] at h1 h2 h3
        exact .inr (.inl ⟨h1, cap, by rw [← e3, h2]; rfl, by rw [h3, Nat.add_assoc]⟩)
      · rw [e1] at h1 h2 h3
        rw [h2] at e3
        injection e3 with _ _ e3
        subst e3
        exact .inr (.inl ⟨h1, cap, e2, by rw [h3, Nat.add_assoc]⟩)
      · exact .inr (.inr ⟨by omega, hg.lt, hg.own⟩)
  · have hFa := hF.below hb
    refine ⟨fun q y hy => ?_, fun q y hy e => let ⟨h1, h2⟩ := hFa.own q y hy e; ⟨h1, by omega⟩, hF.dis⟩
    have hyo := hFo.own q y hy
    by_cases hqk : q = k
    · subst hqk
      have : y = x := by rw [hx] at hy; injection hy with hy; exact hy.symm
      subst this
      rcases hg.how with ⟨h1, h2⟩ | ⟨h1, cap, h2, h3, h4⟩
      · exact (hFa.row q y hy).keep (fun e => h2 _ (by have := (hyo e).2; omega))
      · rcases hI.at_ with ⟨e1, e2, e3⟩ | ⟨e1, cap', e2, e3⟩ | ⟨e1, e2, e3⟩
        · rw [e1] at h2 h4
          have hr := hFa.row q y hy
          have hv : y.v = .slice (some ⟨y.b, 0, none⟩) y.n cap := by rw [← e3, h2, e2]; rfl
          rw [hv] at hr ⊢
          exact h4 _ _ (by omega) hr
        · rw [e1] at h2 h4
          have hr := hFa.row q y hy
          rw [e3] at h2
          injection h2 with _ _ h2
          subst h2
          rw [e2] at hr ⊢
          exact h4 _ _ (by omega) hr
        · refine (hFa.row q y hy).keep (fun e => hg.gr.block _ (by have := (hyo e).2; omega) (fun e' => ?_))
          have := hub _ e'.symm
          have := (hyo e).2
          omega
    · refine (hFa.row q y hy).keep (fun e => hg.gr.block _ (by have := (hyo e).2; omega) (fun e' => ?_))
      rcases hcase _ e'.symm with ⟨h1, h2⟩ | h1
      · exact hF.dis q k y x hy hx hqk e h2 h1
      · have := (hyo e).2
        omega
/-- Grown, a list lies where it lay, or in a new block. -/
theorem Inn.done {wo wr : World} {e : TypeId} {size N G : Nat} {x : Fs} {u : Value} {gb i : Nat} {xs : List Value} (hI : Inn wo wr e size x u gb i xs) (hi : 0 < i) (hx : x.v.ownBlock = some x.b → x.b < wr.heap.size) (hN : N ≤ wo.heap.size) (hG : G < wo.heap.size) : GRow wr e size N G x u gb (x.n + i) xs := by
  rcases hI.at_ with ⟨h1, h2, h3⟩ | ⟨h1, cap, h2, h3⟩ | ⟨h1, h2, h3⟩
  · omega
  · subst h1
    have hv : x.v.ownBlock = some x.b := by rw [h2]; rfl
    exact ⟨hI.row, by rw [h3]; rfl, hx hv, .inl ⟨rfl, hv⟩⟩
  · exact ⟨hI.row, h3, h2, .inr ⟨by omega, by omega⟩⟩
/-- What others have grown into stays. -/
theorem GRow.other {wo w' : World} {e : TypeId} {size N G : Nat} {S : Nat → Prop} {ls : List Fs} {C : Nat → List Value} {k j : Nat} {x y : Fs} {u : Value} {gb m : Nat} {xs : List Value} (h : GRow wo e size N G y u gb m xs) (hF : Fl wo e size S ls C) (hS : ∀ b, S b → b < N) (hx : ls[k]? = some x) (hy : ls[j]? = some y) (hne : j ≠ k)
    (hag : Ag (fun b => ¬ (b = x.b ∧ x.v.ownBlock = some x.b)) wo w') : GRow w' e size N G y u gb m xs := by
  refine h.keep hag.size (hag.block gb h.lt (fun ⟨h1, h2⟩ => ?_))
  rcases h.at_ with ⟨h3, h4⟩ | ⟨h3, h4⟩
  · exact hF.dis j k y x hy hx hne h4 h2 (by omega)
  · have := hS _ (hF.own k x hx h2).1
    omega
end Go.Proofs.YtenkhbiikecegaaGreat
