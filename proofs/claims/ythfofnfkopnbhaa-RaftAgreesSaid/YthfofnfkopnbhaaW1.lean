/- raft: a peer in memory. -/
import Derived.Test.YthfofnfkopnbhaaDMap
import Derived.Test.YthfofnfkopnbhaaZ20
namespace Go.Proofs.Ythfofnfkopnbhaa
open Go.RowKit Go.Maps Go.ChangeMaps
set_option linter.unusedVariables false
set_option linter.unusedSimpArgs false
set_option linter.unusedSectionVars false
set_option maxRecDepth 100000

/-- A block is just these cells. -/
def Bk (w : World) (g : Nat) (t : TypeId) (cs : List Value) : Prop := w.heap[g]? = some (.cells cs.toArray t (0, 0))
theorem Bk.new (w : World) (t : TypeId) (cs : List Value) : Bk (w.alloc (.cells cs.toArray t)) w.heap.size t cs := heap_alloc_new w _
theorem Bk.lt {w : World} {g : Nat} {t : TypeId} {cs : List Value} (h : Bk w g t cs) : g < w.heap.size := (Array.getElem?_eq_some_iff.1 h).1
theorem Bk.below {w w' : World} {g B : Nat} {t : TypeId} {cs : List Value} (h : Bk w g t cs) (hb : Below B w w') (hg : g < B) : Bk w' g t cs := (hb.block g hg).trans h
theorem Bk.ag {w w' : World} {g : Nat} {t : TypeId} {cs : List Value} {K : Nat → Prop} (h : Bk w g t cs) (ha : Ag K w w') (hg : K g) : Bk w' g t cs := (ha.block g h.lt hg).trans h
theorem Bk.cell {w : World} {g : Nat} {t : TypeId} {cs : List Value} (h : Bk w g t cs) (i : Nat) : w.cell? ⟨g, i, none⟩ = cs[i]? := by
  rw [cell_of_row w g i cs.toArray t (0, 0) h, List.getElem?_toArray]
theorem Bk.frozen {w : World} {g : Nat} {t : TypeId} {cs : List Value} (h : Bk w g t cs) (i : Nat) : w.frozen? ⟨g, i, none⟩ = false := frozen_blk h i
theorem Bk.set {w : World} {g : Nat} {t : TypeId} {cs : List Value} (h : Bk w g t cs) (i : Nat) (u : Value) : Bk (w.setCell ⟨g, i, none⟩ u) g t (cs.set i u) := by
  have := heap_setCell_same w g i cs.toArray t u h
  unfold Bk
  rw [this]
  simp
theorem Bk.far {w : World} {g : Nat} {t : TypeId} {cs : List Value} (h : Bk w g t cs) {p : Addr} (hp : g ≠ p.block) (u : Value) : Bk (w.setCell p u) g t cs := (Below.heap_setCell w p u g hp).trans h
theorem Bk.drew {w : World} {g : Nat} {t : TypeId} {cs : List Value} (h : Bk w g t cs) : Bk w.drew g t cs := h
theorem Bk.alloc {w : World} {g : Nat} {t : TypeId} {cs : List Value} (h : Bk w g t cs) (o : Obj) : Bk (w.alloc o) g t cs := (heap_alloc_old w o h.lt).trans h
theorem Bk.one {w : World} {g : Nat} {t t' : TypeId} {cs cs' : List Value} (h : Bk w g t cs) (h' : Bk w g t' cs') : t = t' ∧ cs = cs' := by
  unfold Bk at h h'
  rw [h] at h'
  injection h' with h'
  injection h' with h1 h2
  exact ⟨h2, by simpa using h1⟩

/-- A letter's cells. -/
def ltV (l : Lt En) (ver : Int) (A : Option Addr) (c : Nat) : List Value := [.int .u8 l.kind, .int .i64 l.src, .int .i64 l.dst, .int .i64 l.term, .int .i64 l.idx, .int .i64 l.was, .bool l.ok, .int .i64 l.com, .int .i64 ver, .slice A l.ents.length c]
def ltA (l : Lt En) (ver : Int) (A : Option Addr) (c : Nat) : Value := .agg (ltV l ver A c).toArray
/-- The cells of a row of letters. -/
def rowL : List (Lt En) → List (Option Addr × Nat) → List Value
  | l :: ls, d :: ds => ltV l 0 d.1 d.2 ++ rowL ls ds
  | _, _ => []
theorem rowL_snoc (x : Lt En) (d : Option Addr × Nat) : ∀ (es : List (Lt En)) (ds : List (Option Addr × Nat)), ds.length = es.length → rowL (es ++ [x]) (ds ++ [d]) = rowL es ds ++ ltV x 0 d.1 d.2
  | [], [], _ => by simp [rowL]
  | e :: es, c :: ds, h => by
    have := rowL_snoc x d es ds (by simpa using h)
    simp [rowL, this]
theorem ltV_one (l : Lt En) (v : Int) (A : Option Addr) (c : Nat) : ∀ u ∈ ltV l v A c, u.oneCell' = true := by
  intro u hu
  simp only [ltV, List.mem_cons, List.not_mem_nil, or_false] at hu
  rcases hu with rfl | rfl | rfl | rfl | rfl | rfl | rfl | rfl | rfl | rfl <;> rfl

/-- Where a peer's things lie: its log's object and blocks, its letters, its maps, what it knows of other servers. -/
structure Pm where
  lp : Nat
  L : Nat → Prop
  lv : Value
  g : Nat
  ds : List (Option Addr × Nat)
  vv : Value
  ov : Value
  M : List (Int × Nat)
/-- The blocks of a peer's letters, maps, servers. -/
def Pm.Oth (m : Pm) (b : Nat) : Prop := m.lv.ownBlock = some b ∨ m.vv = .map (some b) ∨ m.ov = .map (some b) ∨ ∃ k, (k, b) ∈ m.M
/-- The blocks that are a peer's own. -/
def Pm.Own (m : Pm) (P b : Nat) : Prop := b = P ∨ m.L b ∨ m.Oth b
/-- A peer's cells. -/
def peV (n id : Int) (m : Pm) (c : Cs En) : List Value :=
  [.int .i64 c.p.T, .int .i64 c.p.V, .int .i64 c.frm, .int .i64 c.p.C, m.lv, .int .i64 id, .int .i64 n, .pointer (some ⟨m.lp, 0, none⟩), .int .i64 c.p.role, .int .i64 c.p.leader, .int .i64 c.p.waited, .int .i64 c.p.limit, m.vv, m.ov]
/-- A set of votes. -/
def VtAt (w : World) (v : Value) (l : List Int) : Prop :=
  (v = .map none ∧ l = []) ∨ ∃ (b : Nat) (es : List MapEntry) (ck : Nat), v = .map (some b) ∧ w.heap[b]? = some (.map es.toArray ck) ∧ EsOk Try.prog 3 es ck ∧ es.map (fun e => (e.key, e.val)) = l.map fun k => (Value.int .i64 k, Value.bool true)
/-- The map of the others. -/
def OfAt (w : World) (v : Value) (M : List (Int × Nat)) : Prop :=
  (v = .map none ∧ M = []) ∨ ∃ (b : Nat) (es : List MapEntry) (ck : Nat), v = .map (some b) ∧ w.heap[b]? = some (.map es.toArray ck) ∧ EsOk Try.prog 3 es ck ∧ es.map (fun e => (e.key, e.val)) = M.map fun p => (Value.int .i64 p.1, Value.pointer (some ⟨p.2, 0, none⟩))
theorem VtAt.keep {w w' : World} {v : Value} {l : List Int} (h : VtAt w v l) (hk : ∀ b, v = .map (some b) → w'.heap[b]? = w.heap[b]?) : VtAt w' v l := by
  rcases h with h | ⟨b, es, ck, h1, h2, h3⟩
  · exact .inl h
  · exact .inr ⟨b, es, ck, h1, (hk b h1).trans h2, h3⟩
theorem OfAt.keep {w w' : World} {v : Value} {M : List (Int × Nat)} (h : OfAt w v M) (hk : ∀ b, v = .map (some b) → w'.heap[b]? = w.heap[b]?) : OfAt w' v M := by
  rcases h with h | ⟨b, es, ck, h1, h2, h3⟩
  · exact .inl h
  · exact .inr ⟨b, es, ck, h1, (hk b h1).trans h2, h3⟩
theorem VtAt.at_ {w : World} {v : Value} {l : List Int} (h : VtAt w v l) {b : Nat} (hb : v = .map (some b)) : ∃ (es : List MapEntry) (ck : Nat), w.heap[b]? = some (.map es.toArray ck) := by
  rcases h with ⟨h, _⟩ | ⟨b', es, ck, h1, h2, _⟩
  · rw [h] at hb; cases hb
  · rw [h1] at hb; injection hb with hb; injection hb with hb; subst hb; exact ⟨es, ck, h2⟩
theorem OfAt.at_ {w : World} {v : Value} {M : List (Int × Nat)} (h : OfAt w v M) {b : Nat} (hb : v = .map (some b)) : ∃ (es : List MapEntry) (ck : Nat), w.heap[b]? = some (.map es.toArray ck) := by
  rcases h with ⟨h, _⟩ | ⟨b', es, ck, h1, h2, _⟩
  · rw [h] at hb; cases hb
  · rw [h1] at hb; injection hb with hb; injection hb with hb; subst hb; exact ⟨es, ck, h2⟩
theorem OfAt.nodup {w : World} {v : Value} {M : List (Int × Nat)} (h : OfAt w v M) : (M.map Prod.fst).Nodup := by
  rcases h with ⟨_, h⟩ | ⟨b', es, ck, h1, h2, h3, h4⟩
  · rw [h]; exact List.nodup_nil
  · have h5 := h3.apart
    have h6 : (es.map (fun e => e.key)).Nodup := List.pairwise_map.2 h5
    have h7 : es.map (fun e => e.key) = (M.map Prod.fst).map (Value.int .i64) := by
      have := congrArg (List.map Prod.fst) h4
      simpa [List.map_map, Function.comp_def] using this
    rw [h7] at h6
    exact nodup_of_map _ h6

/-- A peer's things, all but its own object. -/
structure PeR (w : World) (P : Nat) (n id : Int) (m : Pm) (R : Nat → Prop) (c : Cs En) : Prop where
  log : LogS m.L w m.lp c.p.log
  row : Row w 40 10 m.lv m.g c.out.length (rowL c.out m.ds)
  dlen : m.ds.length = c.out.length
  ents : ∀ (i : Nat) (l : Lt En) (d : Option Addr × Nat), c.out[i]? = some l → m.ds[i]? = some d → Ents w R d.1 d.2 l.ents
  vt : VtAt w m.vv c.p.votes
  vn : c.p.role = 2 → m.vv ≠ .map none
  of : OfAt w m.ov m.M
  srv : ∀ k b, (k, b) ∈ m.M → Bk w b 93 [.int .i64 (c.p.next k), .int .i64 (c.p.mat k)]
  keys : c.p.role = 3 → m.ov ≠ .map none ∧ m.M.map Prod.fst = others n id
  own : ∀ b, m.Own P b → b < w.heap.size
  rr : ∀ b, R b → b < w.heap.size ∧ ¬ m.Own P b
  lP : ¬ m.L P
  lX : ∀ b, m.Oth b → ¬ m.L b ∧ b ≠ P
  vo : ∀ b, m.vv = .map (some b) → m.ov ≠ .map (some b)
  mnd : (m.M.map Prod.snd).Nodup
/-- A peer. -/
structure PeA (w : World) (P : Nat) (n id : Int) (m : Pm) (R : Nat → Prop) (c : Cs En) : Prop where
  obj : Bk w P 54 (peV n id m c)
  r : PeR w P n id m R c
/-- What a call of a peer's leaves. -/
def Went (P : Nat) (n id : Int) (m : Pm) (R : Nat → Prop) (c' : Cs En) (w w' : World) : Prop :=
  ∃ m' R', PeA w' P n id m' R' c' ∧ (∀ b, m'.Own P b → m.Own P b ∨ w.heap.size ≤ b) ∧ (∀ b, R' b → R b ∨ w.heap.size ≤ b) ∧ Ag (fun b => ¬ m.Own P b) w w'

section
variable {w w' : World} {P : Nat} {n id : Int} {m : Pm} {R : Nat → Prop} {c c' : Cs En}
theorem Row.own' {w : World} {e : TypeId} {size g n : Nat} {v : Value} {xs : List Value} (h : Row w e size v g n xs) {b : Nat} (hb : v.ownBlock = some b) : b = g ∧ ∃ cur, w.heap[b]? = some (.cells cur e (0, 0)) := by
  rcases h.2 with ⟨h1, _⟩ | ⟨cap, cur, h1, hg, _⟩
  · rw [h1] at hb; cases hb
  · rw [h1] at hb; injection hb with hb; subst hb; exact ⟨rfl, cur, hg⟩
theorem PeR.ag (h : PeR w P n id m R c) (ha : Ag (fun b => (m.Own P b ∧ b ≠ P) ∨ R b) w w') : PeR w' P n id m R c := by
  have hk : ∀ b, m.Oth b → w'.heap[b]? = w.heap[b]? := fun b hb => ha.block b (h.own b (.inr (.inr hb))) (.inl ⟨.inr (.inr hb), (h.lX b hb).2⟩)
  refine ⟨h.log.keep (ha.mono fun b hb hl => .inl ⟨.inr (.inl hl), fun e => h.lP (e ▸ hl)⟩), h.row.keep (fun e => hk _ (.inl e)), h.dlen, fun i l d hi hd => (h.ents i l d hi hd).keep (fun b hb => ha.block b (h.rr b hb).1 (.inr hb)) (fun _ h => h), h.vt.keep (fun b e => hk b (.inr (.inl e))), h.vn, h.of.keep (fun b e => hk b (.inr (.inr (.inl e)))), fun k b hb => (hk b (.inr (.inr (.inr ⟨k, hb⟩)))).trans (h.srv k b hb), h.keys, fun b hb => Nat.lt_of_lt_of_le (h.own b hb) ha.size, fun b hb => ⟨Nat.lt_of_lt_of_le (h.rr b hb).1 ha.size, (h.rr b hb).2⟩, h.lP, h.lX, h.vo, h.mnd⟩
/-- Numbers alone have changed. -/
theorem PeR.re (h : PeR w P n id m R c) (e1 : c'.p.log = c.p.log) (e2 : c'.out = c.out) (e3 : c'.p.votes = c.p.votes) (e4 : c'.p.next = c.p.next) (e5 : c'.p.mat = c.p.mat) (h2 : c'.p.role = 2 → m.vv ≠ .map none) (h3 : c'.p.role = 3 → m.ov ≠ .map none ∧ m.M.map Prod.fst = others n id) : PeR w P n id m R c' :=
  ⟨e1 ▸ h.log, e2 ▸ h.row, e2 ▸ h.dlen, e2 ▸ h.ents, e3 ▸ h.vt, h2, h.of, fun k b hb => by rw [e4, e5]; exact h.srv k b hb, h3, h.own, h.rr, h.lP, h.lX, h.vo, h.mnd⟩
theorem PeA.ag (h : PeA w P n id m R c) (ha : Ag (fun b => m.Own P b ∨ R b) w w') : PeA w' P n id m R c :=
  ⟨h.obj.ag ha (.inl (.inl rfl)), h.r.ag (ha.mono fun b _ hb => hb.imp And.left (fun x => x))⟩
theorem PeA.below (h : PeA w P n id m R c) (hb : Below w.heap.size w w') : PeA w' P n id m R c := h.ag (Ag.of_below _ hb)
theorem PeA.drew (h : PeA w P n id m R c) : PeA w.drew P n id m R c := h.below (Below.refl _ w).drew
theorem PeA.plt (h : PeA w P n id m R c) : P < w.heap.size := h.obj.lt
/-- A number of the peer's own object was written. -/
theorem PeA.set (h : PeA w P n id m R c) (k : Nat) (v : Value) (ho : (peV n id m c).set k v = peV n id m c') (hr : PeR w P n id m R c') : PeA (w.setCell ⟨P, k, none⟩ v) P n id m R c' := by
  refine ⟨by rw [← ho]; exact h.obj.set k v, hr.ag ?_⟩
  exact (Ag.refl _ w).setCell (fun _ hK => by
    rcases hK with hK | hK
    · exact hK.2 rfl
    · exact (hr.rr _ hK).2 (.inl rfl)) v
theorem Went.refl (h : PeA w P n id m R c) : Went P n id m R c w w := ⟨m, R, h, fun b hb => .inl hb, fun b hb => .inl hb, Ag.refl _ _⟩
theorem Went.seq {w1 : World} {m1 : Pm} {R1 : Nat → Prop} (h2 : ∀ b, m1.Own P b → m.Own P b ∨ w.heap.size ≤ b) (h3 : ∀ b, R1 b → R b ∨ w.heap.size ≤ b) (h4 : Ag (fun b => ¬ m.Own P b) w w1) (k : Went P n id m1 R1 c' w1 w') : Went P n id m R c' w w' := by
  obtain ⟨m2, R2, k1, k2, k3, k4⟩ := k
  refine ⟨m2, R2, k1, fun b hb => ?_, fun b hb => ?_, ⟨k4.os.trans h4.os, k4.tape.trans h4.tape, k4.output.trans h4.output, Nat.le_trans h4.size k4.size, fun b hb ho => ?_⟩⟩
  · rcases k2 b hb with h5 | h5
    · exact h2 b h5
    · exact .inr (Nat.le_trans h4.size h5)
  · rcases k3 b hb with h5 | h5
    · exact h3 b h5
    · exact .inr (Nat.le_trans h4.size h5)
  · refine (k4.block b (Nat.lt_of_lt_of_le hb h4.size) (fun h5 => ?_)).trans (h4.block b hb ho)
    rcases h2 b h5 with h6 | h6
    · exact ho h6
    · omega
theorem Went.trans {w1 : World} {c1 : Cs En} (h : Went P n id m R c1 w w1) (k : ∀ m1 R1, PeA w1 P n id m1 R1 c1 → Went P n id m1 R1 c' w1 w') : Went P n id m R c' w w' := by
  obtain ⟨m1, R1, h1, h2, h3, h4⟩ := h
  exact Went.seq h2 h3 h4 (k m1 R1 h1)
theorem Went.set (h : PeA w P n id m R c) (k : Nat) (v : Value) (ho : (peV n id m c).set k v = peV n id m c') (hr : PeR w P n id m R c') : Went P n id m R c' w (w.setCell ⟨P, k, none⟩ v) :=
  ⟨m, R, h.set k v ho hr, fun b hb => .inl hb, fun b hb => .inl hb, (Ag.refl _ w).setCell (fun _ hK => hK (.inl rfl)) v⟩
theorem Went.pre {w0 : World} (h : PeA w0 P n id m R c) (hb : Below w0.heap.size w0 w) (k : Went P n id m R c' w w') : Went P n id m R c' w0 w' := by
  obtain ⟨m1, R1, k1, k2, k3, k4⟩ := k
  exact ⟨m1, R1, k1, fun b hb' => (k2 b hb').imp (fun x => x) (fun h => Nat.le_trans hb.size h), fun b hb' => (k3 b hb').imp (fun x => x) (fun h => Nat.le_trans hb.size h), (Ag.of_below _ hb).trans k4⟩
/-- The cells of a peer's object. -/
theorem PeA.cells (h : PeA w P n id m R c) : w.cell? ⟨P, 0, none⟩ = some (.int .i64 c.p.T) ∧ w.cell? ⟨P, 1, none⟩ = some (.int .i64 c.p.V) ∧ w.cell? ⟨P, 2, none⟩ = some (.int .i64 c.frm) ∧ w.cell? ⟨P, 3, none⟩ = some (.int .i64 c.p.C) ∧ w.cell? ⟨P, 4, none⟩ = some m.lv ∧ w.cell? ⟨P, 5, none⟩ = some (.int .i64 id) ∧ w.cell? ⟨P, 6, none⟩ = some (.int .i64 n) ∧ w.cell? ⟨P, 7, none⟩ = some (.pointer (some ⟨m.lp, 0, none⟩)) ∧ w.cell? ⟨P, 8, none⟩ = some (.int .i64 c.p.role) ∧ w.cell? ⟨P, 9, none⟩ = some (.int .i64 c.p.leader) ∧ w.cell? ⟨P, 10, none⟩ = some (.int .i64 c.p.waited) ∧ w.cell? ⟨P, 11, none⟩ = some (.int .i64 c.p.limit) ∧ w.cell? ⟨P, 12, none⟩ = some m.vv ∧ w.cell? ⟨P, 13, none⟩ = some m.ov := by
  have hc := h.obj.cell
  refine ⟨hc 0, hc 1, hc 2, hc 3, hc 4, hc 5, hc 6, hc 7, hc 8, hc 9, hc 10, hc 11, hc 12, hc 13⟩
theorem PeA.frozen (h : PeA w P n id m R c) (k : Nat) : w.frozen? ⟨P, k, none⟩ = false := h.obj.frozen k
end
end Go.Proofs.Ythfofnfkopnbhaa

