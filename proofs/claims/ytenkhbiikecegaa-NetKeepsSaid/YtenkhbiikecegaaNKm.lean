/- net: small facts for the stage's theorem. -/
import Derived.Test.YtenkhbiikecegaaNKop
namespace Go.Proofs.Ytenkhbiikecegaa
open Go.RowKit Go.Maps Go.ChangeMaps
set_option linter.unusedVariables false
set_option linter.unusedSimpArgs false
set_option maxRecDepth 100000

theorem infoStr : (Try.prog.info? 9).map (fun i => (i.zero, i.size, i.bytes)) = some (some (.string ⟨#[]⟩), 1, 16) := by kernel_rfl
theorem NB.few {B : Nat → Prop} {N : Nat} {S : Sg} {T : List PV} {w : World} (h : NB B N S T w) (a b : Int) : (S a b).length ≤ 64 := by
  obtain ⟨st, h⟩ := h
  rw [← h.sg, List.length_map]
  unfold sig
  split
  · next r hr => exact (h.net.row r (rowOf_some hr).1).few
  · simp
theorem KI.few {w0 w : World} {G N : Nat} {B : Nat → Prop} {S : Sg} {rs : List KRow} (h : KI w0 G N B S rs w) (hS : KS S rs) {f t : Nat} (hf : f < 3) (ht : t < 3) {r : KRow} (hr : rs.getD (3 * f + t) default = r) : r.us.length ≤ 64 := by
  have := h.net.few f t
  rw [hS.at_ hf ht hr, List.length_map] at this
  exact this
theorem KI.drew {w0 w : World} {G N : Nat} {B : Nat → Prop} {S : Sg} {rs : List KRow} (h : KI w0 G N B S rs w) : KI w0 G N B S rs w.drew := h.below (Below.refl _ _).drew
theorem KI.drewN {w0 w : World} {G N : Nat} {B : Nat → Prop} {S : Sg} {rs : List KRow} (h : KI w0 G N B S rs w) (n : Nat) : KI w0 G N B S rs (w.drewN n) := h.below (by
  induction n with
  | zero => exact Below.refl _ _
  | succ n ih => exact ih.drew)
theorem Bk.drewN {w : World} {g : Nat} {t : TypeId} {cs : List Value} (h : Bk w g t cs) (n : Nat) : Bk (w.drewN n) g t cs := h
theorem KI.gG {w0 w w1 : World} {G N : Nat} {B : Nat → Prop} {S : Sg} {rs : List KRow} (h : KI w0 G N B S rs w) {r : KRow} (hm : r ∈ rs) (hw : w.grownBy w1 r.v.ownBlock) : Bk w1 G 45 (rs.map KRow.v) := by
  refine (hw.block G h.bk.lt fun e => ?_).trans h.bk
  obtain ⟨A, c, ev, hA⟩ := row_own (h.row r hm).1
  rcases hA with ⟨q1, _⟩ | ⟨q1, q2, cur, hc⟩
  · rw [ev, q1] at e; cases e
  · rw [q2] at e
    injection e with e
    rw [← e, h.bk] at hc
    injection hc with hc
    injection hc with _ hc
    exact absurd hc (by decide)
/-- A row's slice is no block of another type. -/
theorem KI.notOwn {w0 w : World} {G N g : Nat} {B : Nat → Prop} {S : Sg} {rs : List KRow} (h : KI w0 G N B S rs w) {r : KRow} (hm : r ∈ rs) {t : TypeId} {cs : List Value} (hg : Bk w g t cs) (ht : t ≠ 9) : some g ≠ r.v.ownBlock := by
  intro e
  obtain ⟨A, c, ev, hA⟩ := row_own (h.row r hm).1
  rcases hA with ⟨q1, _⟩ | ⟨q1, q2, cur, hc⟩
  · rw [ev, q1] at e; cases e
  · rw [q2] at e
    injection e with e
    rw [← e, hg] at hc
    injection hc with hc
    injection hc with _ hc
    exact ht hc
theorem KI.cellG {w0 w : World} {G N : Nat} {B : Nat → Prop} {S : Sg} {rs : List KRow} (h : KI w0 G N B S rs w) {i : Nat} {r : KRow} (hi : rs[i]? = some r) : w.cell? ⟨G, i, none⟩ = some r.v := by
  rw [h.bk.cell i, List.getElem?_map, hi]; rfl
theorem Row.own2 {w : World} {e : TypeId} {size g n : Nat} {v : Value} {xs : List Value} (h : Row w e size v g n xs) : v.ownBlock = none ∨ v.ownBlock = some g := by
  rcases h.2 with ⟨rfl, _⟩ | ⟨cap, cur, rfl, _⟩
  · exact .inl rfl
  · exact .inr rfl
theorem Row.form2 {w : World} {e : TypeId} {size g n k : Nat} {v : Value} {xs : List Value} (h : Row w e size v g n xs) (hv : v.ownBlock = some k) : ∃ cap, v = .slice (some ⟨g, 0, none⟩) n cap := by
  rcases h.2 with ⟨rfl, _⟩ | ⟨cap, cur, rfl, _⟩
  · cases hv
  · exact ⟨cap, rfl⟩
theorem KI.gcell {w0 w w1 : World} {G N : Nat} {B : Nat → Prop} {S : Sg} {rs : List KRow} (h : KI w0 G N B S rs w) {r : KRow} {i : Nat} (hi : rs[i]? = some r) (hw : w.grownBy w1 r.v.ownBlock) : w1.cell? ⟨G, i, none⟩ = some r.v ∧ w1.frozen? ⟨G, i, none⟩ = false := by
  have hb := h.gG (List.mem_of_getElem? hi) hw
  exact ⟨by rw [hb.cell i, List.getElem?_map, hi]; rfl, hb.frozen i⟩
theorem Row.cell0 {w : World} {e : TypeId} {size g n j : Nat} {v u : Value} {xs : List Value} (h : Row w e size v g n xs) (hv : v.ownBlock = some g) (hj : xs[j]? = some u) : w.cell? ⟨g, j, none⟩ = some u := by
  have hadd : (⟨g, 0, none⟩ : Addr).add j = ⟨g, j, none⟩ := by unfold Addr.add; split <;> simp_all
  rw [← hadd]
  exact h.cells (by rw [hv]; simp) j u hj
theorem KRow.at_ {w : World} {r : KRow} (h : Row w 9 1 r.v r.g r.us.length r.cs) (hv : r.v.ownBlock = some r.g) {j : Nat} (hj : j < r.us.length) : w.cell? ⟨r.g, j, none⟩ = some (.string ⟨(r.us[j]).toArray⟩) :=
  h.cell0 hv (by show (r.us.map strV)[j]? = _; rw [List.getElem?_map, List.getElem?_eq_getElem hj]; rfl)
section
variable {P : Program} (w : World)
/-- Append of none, too, onto a row in a block. -/
theorem run_append_rowZ (t ty e : TypeId) (i : TypeInfo) (z : Value) (size bytes : Nat) (ht : P.underlying t = some (.slice e)) (hi : P.info? e = some i) (hz : i.zero = some z)
    (hsize : i.size = size) (hby : i.bytes = bytes) (hzs : z.cells.size = size)
    (v : Value) (g n : Nat) (xs : List Value) (hown : Row w e size v g n xs) (hv : v.ownBlock = some g)
    (a : Addr) (m c : Nat) (news : List Value) (hl : news.length = m * size) (hnews : ∀ j u, news[j]? = some u → w.cell? (a.add j) = some u) (h1 : ∀ u ∈ news, u.oneCell' = true)
    (h63 : n + m ≤ maxLen) (hbytes : (n + m) * bytes ≤ 140737488355328) :
    ∃ v' w' g', (Builtin.append_ #[t, t] ty #[v, .slice (some a) m c]).run P w = .ok v' w' ∧ Row w' e size v' g' (n + m) (xs ++ news) ∧ w.grownBy w' v.ownBlock ∧ v'.ownBlock = some g' ∧
      (g' = w.heap.size ∨ (g' = g ∧ v.ownBlock = some g)) ∧ g' < w'.heap.size := by
  by_cases hm : 0 < m
  · exact run_append_row w t ty e i z size bytes ht hi hz hsize hby hzs v g n xs hown a m c news hl hnews h1 h63 hbytes hm
  obtain rfl : m = 0 := by omega
  obtain rfl : news = [] := List.eq_nil_of_length_eq_zero (by omega)
  obtain ⟨hxl, ⟨rfl, _⟩ | ⟨cap, cur, rfl, hg, h2, h3, h4, h5⟩⟩ := hown
  · cases hv
  subst hsize
  have hcur : n * i.size ≤ cur.size := by
    have := congrArg List.length h4
    rw [hxl, List.length_take, Array.length_toList] at this
    omega
  have hr := run_append_room (P := P) w t ty e i ht hi g n cap cur hg a 0 c [] (by simp) hnews h1 (by omega) (by simpa using hcur)
  have hlt := (Array.getElem?_eq_some_iff.1 hg).1
  refine ⟨_, _, g, hr, ⟨by simpa using hxl, .inr ⟨cap, cur, rfl, ?_, h2, h3, ?_, h5⟩⟩, ⟨rfl, rfl, rfl, by simp, fun k _ hk => setRow_other w g k _ (fun e => hk (by simp [Value.ownBlock, e]))⟩, rfl, .inr ⟨rfl, rfl⟩, by simpa using hlt⟩
  · rw [setRow_heap w g cur _ e (0, 0) hg]
    simp
  · simpa using h4
theorem step_append_rowZ {ops : Array Oper} {o : Oper} {a : Act} {K : Act → World → Prop} {Q : Exit → Act → World → Prop} {E : Prop} (hgd : o.guard = none) (s x : Operand) (t : TypeId)
    (ho : o.op = .call { callee := .builtin .append, args := #[s, x], argTypes := #[t, t] })
    (e : TypeId) (i : TypeInfo) (z : Value) (size bytes : Nat) (ht : P.underlying t = some (.slice e)) (hi : P.info? e = some i) (hz : i.zero = some z)
    (hsize : i.size = size) (hby : i.bytes = bytes) (hzs : z.cells.size = size)
    (v : Value) (g n : Nat) (xs : List Value) (hs : a.eval s = v) (hown : Row w e size v g n xs) (hv : v.ownBlock = some g)
    (ad : Addr) (m c : Nat) (news : List Value) (hx : a.eval x = .slice (some ad) m c) (hl : news.length = m * size) (hnews : ∀ j u, news[j]? = some u → w.cell? (ad.add j) = some u) (h1 : ∀ u ∈ news, u.oneCell' = true)
    (h63 : n + m ≤ maxLen) (hbytes : (n + m) * bytes ≤ 140737488355328)
    (h : ∀ v' w' g', Row w' e size v' g' (n + m) (xs ++ news) → w.grownBy w' v.ownBlock → v'.ownBlock = some g' → (g' = w.heap.size ∨ (g' = g ∧ v.ownBlock = some g)) → g' < w'.heap.size → K (a.put o.dst v') w') :
    if Region.wanted o (yielded ops a.tmps) = true then Oper.wp P o a w K Q else E := by
  have hw : Region.wanted o (yielded ops a.tmps) = true := by simp [Region.wanted, hgd]
  rw [if_pos hw]
  obtain ⟨v', w', g', hr, h2, h3, h4, h5, h6⟩ := run_append_rowZ (P := P) w t o.type e i z size bytes ht hi hz hsize hby hzs v g n xs hown hv ad m c news hl hnews h1 h63 hbytes
  unfold Oper.wp execOp
  simp only [ho, resolve, invoke, builtin, Sem.run_bind, Sem.run_pure, Result.andThen_ok, List.map_toArray, List.map_cons, List.map_nil, hs, hx, hr]
  exact h v' w' g' h2 h3 h4 h5 h6
end
/-- A row in new memory is set in G. -/
theorem KI.fresh {w0 w w1 : World} {G N : Nat} {B : Nat → Prop} {S : Sg} {rs : List KRow} (h : KI w0 G N B S rs w) {i : Nat} {r : KRow} (hi : rs[i]? = some r) {v' : Value} {g' : Nat} {us : List (List UInt8)} (hr : Row w1 9 1 v' g' us.length (us.map strV))
    (hb : Below w.heap.size w w1) (hg : w.heap.size ≤ g') (hlt : g' < w1.heap.size) (hS : ∀ r' : KRow, r'.us = us → KS S (rs.set i r')) : ∃ B S rs, KI w0 G N B S rs (w1.setCell ⟨G, i, none⟩ v') ∧ KS S rs :=
  ⟨B, S, _, h.set (r' := ⟨v', g', us⟩) hi hr (fun _ => .inl ⟨hg, hlt⟩) ⟨hb.os, hb.tape, hb.output, hb.size, fun k hk _ => hb.block k hk⟩, hS _ rfl⟩
/-- The row's slice has grown; the row in G is set. -/
theorem KI.put_ {w0 w w1 : World} {G N : Nat} {B : Nat → Prop} {S : Sg} {rs : List KRow} (h : KI w0 G N B S rs w) {i : Nat} {r : KRow} (hi : rs[i]? = some r) {v' : Value} {g' : Nat} {us : List (List UInt8)} (hr : Row w1 9 1 v' g' us.length (us.map strV))
    (hw : w.grownBy w1 r.v.ownBlock) (hv : v'.ownBlock = some g') (hg : g' = w.heap.size ∨ (g' = r.g ∧ r.v.ownBlock = some r.g)) (hlt : g' < w1.heap.size) (hS : ∀ r' : KRow, r'.us = us → KS S (rs.set i r')) : ∃ B S rs, KI w0 G N B S rs (w1.setCell ⟨G, i, none⟩ v') ∧ KS S rs := by
  refine ⟨B, S, _, h.set (r' := ⟨v', g', us⟩) hi hr (fun _ => ?_) hw, hS _ rfl⟩
  rcases hg with e | e
  · exact .inl ⟨by show w.heap.size ≤ g'; omega, hlt⟩
  · exact .inr e
/-- The row in G is set to what it was. -/
theorem KI.same {w0 w : World} {G N : Nat} {B : Nat → Prop} {S : Sg} {rs : List KRow} (h : KI w0 G N B S rs w) (hS : KS S rs) {i : Nat} {r : KRow} (hi : rs[i]? = some r) : ∃ B S rs, KI w0 G N B S rs (w.setCell ⟨G, i, none⟩ r.v) ∧ KS S rs := by
  have hm := List.mem_of_getElem? hi
  have hrow := (h.row r hm).1
  refine ⟨B, S, _, h.set (r' := r) hi hrow (fun e => .inr ⟨rfl, e⟩) ⟨rfl, rfl, rfl, Nat.le_refl _, fun _ _ _ => rfl⟩, ?_⟩
  obtain ⟨h1, h2⟩ := List.getElem?_eq_some_iff.1 hi
  rw [← h2, List.set_getElem_self]
  exact hS
/-- As a string: bytes anywhere. -/
theorem str_rd {w : World} {K : Nat → Prop} {A : Option Addr} {c : Nat} {u : List UInt8} (hr : Rd w K A c (u8s (bI u))) : (convert 29 9 (.slice A u.length c)).run Try.prog w = .ok (strV u) w := by
  cases A with
  | none =>
    obtain ⟨h1, h2⟩ := hr.nonone rfl
    rw [u8s_len, bI_len] at h1
    have : u = [] := List.eq_nil_of_length_eq_zero h1
    subst this h2
    have e := run_convert_bytes_string (P := Try.prog) w 29 9 5 none 0 0 Try.underlying29 Try.underlying5 Try.underlying9
    simp only [List.length_nil]
    exact e.trans rfl
  | some a =>
    refine run_convert_bytes_back (P := Try.prog) w 29 9 5 a c u Try.underlying29 Try.underlying5 Try.underlying9 (fun j hj => ?_)
    have hne : u8s (bI u) ≠ [] := by
      intro e
      have h1 := congrArg List.length e
      rw [u8s_len, bI_len, List.length_nil] at h1
      omega
    obtain ⟨a', e', _, hc⟩ := hr.2 hne
    injection e' with e'
    subst e'
    refine hc j _ ?_
    simp [bI, u8s, hj]
theorem news_new1 (w : World) (u : Value) (t : TypeId) : ∀ j v, [u][j]? = some v → (w.alloc (.cells #[u] t)).cell? ((⟨w.heap.size, 0, none⟩ : Addr).add j) = some v := by
  intro j v hv
  cases j with
  | zero =>
    simp at hv
    subst hv
    have := (Bk.new w t [u]).cell 0
    exact this
  | succ j => simp at hv
/-- The rows behind row q are taken, and i of row q. -/
def KQ (S : Sg) (rs : List KRow) (q i : Nat) : Prop := ∀ a b, S a b = if 0 ≤ a ∧ a < 3 ∧ 0 ≤ b ∧ b < 3 ∧ 3 * a + b ≤ q then ((rs.getD (3 * a + b).toNat default).us.drop (if 3 * a + b = q then i else 0)).map bI else []
/-- The rows from q on are taken. -/
def KP (S : Sg) (rs : List KRow) (q : Nat) : Prop := ∀ a b, S a b = if 0 ≤ a ∧ a < 3 ∧ 0 ≤ b ∧ b < 3 ∧ 3 * a + b < q then ((rs.getD (3 * a + b).toNat default).us).map bI else []
theorem KS.kp {S : Sg} {rs : List KRow} (h : KS S rs) : KP S rs 9 := by
  intro a b
  rw [h a b]
  by_cases hb : 0 ≤ a ∧ a < 3 ∧ 0 ≤ b ∧ b < 3
  · rw [if_pos hb, if_pos ⟨hb.1, hb.2.1, hb.2.2.1, hb.2.2.2, by omega⟩]
  · rw [if_neg hb, if_neg (fun e => hb ⟨e.1, e.2.1, e.2.2.1, e.2.2.2.1⟩)]
theorem KP.kq {S : Sg} {rs : List KRow} {q : Nat} (h : KP S rs (q + 1)) : KQ S rs q 0 := by
  intro a b
  rw [h a b]
  by_cases hb : 0 ≤ a ∧ a < 3 ∧ 0 ≤ b ∧ b < 3 ∧ 3 * a + b < ((q + 1 : Nat) : Int)
  · rw [if_pos hb, if_pos ⟨hb.1, hb.2.1, hb.2.2.1, hb.2.2.2.1, by omega⟩]
    simp
  · rw [if_neg hb, if_neg (fun e => hb ⟨e.1, e.2.1, e.2.2.1, e.2.2.2.1, by omega⟩)]
theorem KQ.kp {S : Sg} {rs : List KRow} {q i : Nat} (h : KQ S rs q i) (hi : (rs.getD q default).us.length ≤ i) : KP S rs q := by
  intro a b
  rw [h a b]
  by_cases hb : 0 ≤ a ∧ a < 3 ∧ 0 ≤ b ∧ b < 3 ∧ 3 * a + b ≤ (q : Int)
  · rw [if_pos hb]
    by_cases he : 3 * a + b = (q : Int)
    · rw [if_pos he, if_neg (by omega), show (3 * a + b).toNat = q by omega, List.drop_eq_nil_of_le hi]
      rfl
    · rw [if_neg he, if_pos ⟨hb.1, hb.2.1, hb.2.2.1, hb.2.2.2.1, by omega⟩]
      rfl
  · rw [if_neg hb, if_neg (fun e => hb ⟨e.1, e.2.1, e.2.2.1, e.2.2.2.1, by omega⟩)]
theorem KQ.at_ {S : Sg} {rs : List KRow} {q i : Nat} (h : KQ S rs q i) (hq : q < 9) : S ((q / 3 : Nat) : Int) ((q % 3 : Nat) : Int) = ((rs.getD q default).us.drop i).map bI := by
  rw [h, if_pos ⟨by omega, by omega, by omega, by omega, by omega⟩, if_pos (by omega), show (3 * ((q / 3 : Nat) : Int) + ((q % 3 : Nat) : Int)).toNat = q by omega]
theorem KQ.upd {S : Sg} {rs : List KRow} {q i : Nat} (h : KQ S rs q i) (hq : q < 9) : KQ (upd S ((q / 3 : Nat) : Int) ((q % 3 : Nat) : Int) (((rs.getD q default).us.drop (i + 1)).map bI)) rs q (i + 1) := by
  intro a b
  unfold Go.Proofs.Ytenkhbiikecegaa.upd
  by_cases e : ((q / 3 : Nat) : Int) = a ∧ ((q % 3 : Nat) : Int) = b
  · obtain ⟨rfl, rfl⟩ := e
    rw [if_pos ⟨rfl, rfl⟩, if_pos ⟨by omega, by omega, by omega, by omega, by omega⟩, if_pos (by omega), show (3 * ((q / 3 : Nat) : Int) + ((q % 3 : Nat) : Int)).toNat = q by omega]
  · rw [if_neg e, h a b]
    by_cases hb : 0 ≤ a ∧ a < 3 ∧ 0 ≤ b ∧ b < 3 ∧ 3 * a + b ≤ (q : Int)
    · rw [if_pos hb, if_pos hb]
      by_cases he : 3 * a + b = (q : Int)
      · exact absurd ⟨by omega, by omega⟩ e
      · rw [if_neg he, if_neg he]
    · rw [if_neg hb, if_neg hb]
section
variable {w0 w : World} {G N : Nat} {B : Nat → Prop} {S : Sg} {rs : List KRow}
/-- The first of what is left of row q is taken. -/
theorem kq_take (h : KI w0 G N B S rs w) {q i : Nat} (hS : KQ S rs q i) (hq : q < 9) {r : KRow} (hr : rs.getD q default = r) (hi : i < r.us.length) : Calls Try.prog 5 #[.pointer (some ⟨N, 0, none⟩), .int .i64 ((q / 3 : Nat) : Int), .int .i64 ((q % 3 : Nat) : Int), .int .i64 0] w fun e w' => ∃ A c, e = .returned (.tuple #[.slice A (r.us[i]).length c, .int .i64 0]) ∧ (∃ B S, KI w0 G N B S rs w' ∧ KQ S rs q (i + 1)) ∧ ∃ K, Dat w' K A c (bI r.us[i]) := by
  have hat := hS.at_ hq
  rw [hr] at hat
  have hdl : (r.us.drop i).length = r.us.length - i := List.length_drop
  have hin : 0 ≤ (0 : Int) ∧ (0 : Int) < (S ((q / 3 : Nat) : Int) ((q % 3 : Nat) : Int)).length := by rw [hat, List.length_map, hdl]; omega
  refine (op_take ((q / 3 : Nat) : Int) ((q % 3 : Nat) : Int) 0 (i64_n (by omega)) (i64_n (by omega)) w h.net).mono ?_
  rintro e w' ⟨⟨A, c, l⟩, hp, he, hd⟩
  have hv : l = bI r.us[i] := by
    rw [show l = tkV S ((q / 3 : Nat) : Int) ((q % 3 : Nat) : Int) 0 from hp, tkV, if_pos hin, hat]
    simp [List.getD_eq_getElem?_getD, hi]
  subst hv
  obtain ⟨B', h1, h2⟩ := h.did hd
  refine ⟨A, c, ?_, ⟨B', _, h1, ?_⟩, B', h2 ⟨A, c, bI r.us[i]⟩ (by simp)⟩
  · rw [he, tkE, if_pos hin]
    simp [PV.val]
  · rw [tkS, if_pos hin, hat]
    have := hS.upd hq
    rw [hr] at this
    have e1 : (List.map bI (r.us.drop i)).eraseIdx (Int.toNat 0) = (r.us.drop (i + 1)).map bI := by
      rw [List.drop_eq_getElem_cons hi]
      rfl
    rw [e1]
    exact this
/-- All was taken. -/
theorem kp_links (h : KI w0 G N B S rs w) (hS : KP S rs 0) : Calls Try.prog 10 #[.pointer (some ⟨N, 0, none⟩)] w fun e w' => ∃ A c, e = .returned (.slice A 0 c) ∧ Below w.heap.size w w' := by
  have h0 : ∀ a b, S a b = [] := fun a b => by rw [hS a b, if_neg (by omega)]
  refine (op_links' w h.net [] (fun x y hne => absurd (h0 x y) hne) (by simp)).mono ?_
  rintro e w' ⟨A, c, L, he, hL, _, hw⟩
  have : L = [] := by
    cases L with
    | nil => rfl
    | cons x l => exact absurd (h0 x.1 x.2) ((hL.1 x.1 x.2).1 (by simp))
  subst this
  exact ⟨A, c, he, hw⟩
theorem ki_wait9 (h : KI w0 G N B S rs w) (hS : KS S rs) {q : Nat} (hq : q < 9) {r : KRow} (hr : rs.getD q default = r) : Calls Try.prog 9 #[.pointer (some ⟨N, 0, none⟩), .int .i64 ((q / 3 : Nat) : Int), .int .i64 ((q % 3 : Nat) : Int)] w fun e w' => e = .returned (.int .i64 r.us.length) ∧ Below w.heap.size w w' :=
  ki_wait h hS (f := q / 3) (t := q % 3) (by omega) (by omega) (by rw [show 3 * (q / 3) + q % 3 = q by omega]; exact hr)
end
/-- How many rows have something. -/
def cnt (rs : List KRow) (q : Nat) : Nat := (rs.take q).countP fun r => decide (0 < r.us.length)
theorem cnt_in {rs : List KRow} {q : Nat} {r : KRow} (h : rs[q]? = some r) (h0 : 0 < r.us.length) : cnt rs (q + 1) = cnt rs q + 1 := by
  unfold cnt
  rw [List.take_add_one, h, List.countP_append]
  simp [h0]
theorem cnt_out {rs : List KRow} {q : Nat} {r : KRow} (h : rs[q]? = some r) (h0 : ¬ 0 < r.us.length) : cnt rs (q + 1) = cnt rs q := by
  unfold cnt
  rw [List.take_add_one, h, List.countP_append]
  simp [h0]
theorem cnt_le (rs : List KRow) (q : Nat) : cnt rs q ≤ q := Nat.le_trans List.countP_le_length (by simp; omega)
theorem cnt_all {rs : List KRow} (h : rs.length = 9) : cnt rs 9 = rs.countP fun r => decide (0 < r.us.length) := by
  unfold cnt
  rw [List.take_of_length_le (by omega)]
end Go.Proofs.Ytenkhbiikecegaa
