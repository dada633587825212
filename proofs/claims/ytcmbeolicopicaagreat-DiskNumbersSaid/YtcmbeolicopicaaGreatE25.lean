/- disk: DoL: a list of steps that the law makes. -/
import Derived.Test.YtcmbeolicopicaaGreatE24
namespace Go.Proofs.YtcmbeolicopicaaGreat
open Go.RowKit Go.Maps Go.ChangeMaps
set_option linter.unusedVariables false
set_option linter.unusedSimpArgs false
set_option maxRecDepth 100000

/-- A step in a list, where its bytes lie. -/
structure DoE where
  d : DoV
  A : Option Addr
  c : Nat
def DoE.cs (e : DoE) : List Value := doC e.d e.A e.c
def DoE.Ok (e : DoE) : Prop := e.d.u.length ≤ e.c ∧ e.c ≤ maxLen ∧ I64 e.d.o ∧ I64 e.d.k ∧ e.d.s.length ≤ maxLen ∧ e.d.t.length ≤ maxLen
def esC (es : List DoE) : List Value := es.flatMap DoE.cs
theorem esC_len : ∀ (es : List DoE), (esC es).length = es.length * 5
  | [] => rfl
  | e :: es => by
    have := esC_len es
    unfold esC at *
    simp only [List.flatMap_cons, List.length_append, List.length_cons, DoE.cs, doC, List.length_nil]
    omega
theorem esC_app (a b : List DoE) : esC (a ++ b) = esC a ++ esC b := by simp [esC]
theorem esC_at {es : List DoE} {i : Nat} {e : DoE} (h : es[i]? = some e) {j : Nat} (hj : j < 5) : (esC es)[i * 5 + j]? = e.cs[j]? := by
  obtain ⟨h1, h2⟩ := List.getElem?_eq_some_iff.1 h
  have hd : (esC es).drop (i * 5) = esC (es.drop i) := by
    conv => lhs; rw [← List.take_append_drop i es, esC_app]
    rw [List.drop_append_of_le_length (by rw [esC_len, List.length_take]; omega), List.drop_eq_nil_of_le (by rw [esC_len, List.length_take]; omega), List.nil_append]
  rw [← List.getElem?_drop, hd, List.drop_eq_getElem_cons h1, h2]
  unfold esC
  rw [List.flatMap_cons, List.getElem?_append_left (by simpa [DoE.cs, doC] using hj)]
theorem esC_one (es : List DoE) : ∀ u ∈ esC es, u.oneCell' = true := by
  intro u hu
  obtain ⟨e, _, he⟩ := List.mem_flatMap.1 hu
  simp [DoE.cs, doC] at he
  rcases he with rfl | rfl | rfl | rfl | rfl <;> rfl
/-- v is a list of steps of the call's own. -/
structure DoL (n0 : Nat) (es : List DoE) (v : Value) (w : World) : Prop where
  row : w.ownsRow n0 31 5 v es.length (esC es)
  ok : ∀ e ∈ es, e.Ok
  dat : ∀ e ∈ es, Rd w (fun b => b < w.heap.size ∧ UB w b) e.A e.c (u8s (bI e.d.u))
theorem UB.keep {w w' : World} {b : Nat} (h : UB w b) (hk : w'.heap[b]? = w.heap[b]?) : UB w' b := by
  obtain ⟨cs, ow, h⟩ := h
  exact ⟨cs, ow, hk.trans h⟩
theorem DoL.below {n0 : Nat} {es : List DoE} {v : Value} {w w' : World} (h : DoL n0 es v w) (hb : Below w.heap.size w w') : DoL n0 es v w' :=
  ⟨owns_keep h.row (fun g e => hb.block g (owns_lt h.row g e)), h.ok, fun e he => (h.dat e he).keep (fun b q => hb.block b q.1) (fun b q => ⟨Nat.lt_of_lt_of_le q.1 hb.size, q.2.keep (hb.block b q.1)⟩)⟩
/-- More steps behind. -/
theorem DoL.app {n0 : Nat} {es fs : List DoE} {v v' : Value} {w w' : World} (h : DoL n0 es v w) (ho : ∀ e ∈ fs, e.Ok) (hd : ∀ e ∈ fs, Rd w (fun b => b < w.heap.size ∧ UB w b) e.A e.c (u8s (bI e.d.u))) (hr : w'.ownsRow n0 31 5 v' (es.length + fs.length) (esC es ++ esC fs)) (hg : w.grownBy w' v.ownBlock) : DoL n0 (es ++ fs) v' w' := by
  have hk : ∀ b, b < w.heap.size ∧ UB w b → w'.heap[b]? = w.heap[b]? := by
    rintro b ⟨h1, cs, ow, h2⟩
    refine hg.block b h1 fun e => ?_
    rcases h.row.2 with ⟨q, _⟩ | ⟨g, cap, cur, q, _, hg', _⟩
    · rw [q] at e; cases e
    · rw [q] at e
      have e : some b = some g := e
      injection e with e
      subst e
      rw [h2] at hg'
      injection hg' with hg'
      injection hg' with _ hg'
      exact absurd hg' (by decide)
  refine ⟨by rw [List.length_append, esC_app]; exact hr, fun e he => (List.mem_append.1 he).elim (h.ok e) (ho e), fun e he => ?_⟩
  have := (List.mem_append.1 he).elim (h.dat e) (hd e)
  exact this.keep hk (fun b q => ⟨Nat.lt_of_lt_of_le q.1 hg.size, q.2.keep (hk b q)⟩)
theorem DoL.dos {n0 : Nat} {es : List DoE} {v : Value} {w : World} (h : DoL n0 es v w) : ∃ A c, v = .slice A (es.map DoE.d).length c ∧ Dos w (fun b => b < w.heap.size) A c (es.map DoE.d) := by
  rcases h.row.2 with ⟨rfl, h2⟩ | ⟨g, cap, cur, rfl, hb, hg, hnc, hcm, hcs, htake⟩
  · have : es = [] := List.eq_nil_of_length_eq_zero h2
    subst this
    exact ⟨none, 0, rfl, fun _ => rfl, Nat.zero_le _, Nat.zero_le _, fun hx => absurd rfl hx⟩
  · refine ⟨_, cap, by rw [List.length_map], (fun e => by cases e), by rw [List.length_map]; exact hnc, hcm, fun _ => ⟨_, rfl, fun i d hi => ?_⟩⟩
    rw [List.getElem?_map] at hi
    obtain ⟨e, he, rfl⟩ := Option.map_eq_some_iff.1 hi
    have hm := List.mem_of_getElem? he
    obtain ⟨o1, o2, o3, o4, o5, o6⟩ := h.ok e hm
    have hgl : g < w.heap.size := (Array.getElem?_eq_some_iff.1 hg).1
    have hadd : ∀ j, (⟨g, 0, none⟩ : Addr).add j = ⟨g, j, none⟩ := fun j => by unfold Addr.add; split <;> simp_all
    have hadd2 : ∀ j, (⟨g, i * 5, none⟩ : Addr).add j = ⟨g, i * 5 + j, none⟩ := fun j => by unfold Addr.add; split <;> simp_all
    refine ⟨e.A, e.c, by rw [hadd]; exact hgl, fun j hj => ?_, (h.dat e hm).keep (fun _ _ => rfl) (fun b q => q.1), o1, o2, o3, o4, o5, o6⟩
    have hx := esC_at he hj
    rw [hadd, hadd2]
    cases hu : e.cs[j]? with
    | none => rw [List.getElem?_eq_none_iff] at hu; simp [DoE.cs, doC] at hu; omega
    | some u =>
      rw [hu] at hx
      have := World.ownsRow.cells (g := g) h.row rfl _ _ hx
      rw [hadd] at this
      rw [this]
      exact hu.symm
theorem dol_new {n0 : Nat} {w : World} (es : List DoE) (h : n0 ≤ w.heap.size) (ok : ∀ e ∈ es, e.Ok) (dat : ∀ e ∈ es, Rd w (fun b => b < w.heap.size ∧ UB w b) e.A e.c (u8s (bI e.d.u))) (n : Nat) (hn : es.length = n) (hm : n ≤ 1000000) :
    DoL n0 es (.slice (some ⟨w.heap.size, 0, none⟩) n n) (w.alloc (.cells (esC es).toArray 31)) := by
  subst hn
  have hb : Below w.heap.size w (w.alloc (.cells (esC es).toArray 31)) := (Below.refl _ _).alloc (Nat.le_refl _) _
  refine ⟨⟨esC_len es, .inr ⟨w.heap.size, es.length, _, rfl, h, heap_alloc_new w _, Nat.le_refl _, by unfold maxLen; omega, by simp [esC_len], ?_⟩⟩, ok, fun e he => (dat e he).keep (fun b q => hb.block b q.1) (fun b q => ⟨Nat.lt_of_lt_of_le q.1 hb.size, q.2.keep (hb.block b q.1)⟩)⟩
  rw [List.take_of_length_le (by simp [esC_len])]
theorem bk_rd {w : World} {g : Nat} {cs : List Value} (u : List UInt8) (h : Bk w g 5 cs) (hu : u8s (bI u) = cs) (c : Nat) : Rd w (fun b => b < w.heap.size ∧ UB w b) (some ⟨g, 0, none⟩) c (u8s (bI u)) := by
  refine ⟨(fun e => by cases e), fun _ => ⟨_, rfl, ⟨h.lt, _, _, h⟩, fun j v hv => ?_⟩⟩
  have hadd : (⟨g, 0, none⟩ : Addr).add j = ⟨g, j, none⟩ := by unfold Addr.add; split <;> simp_all
  rw [hadd, h.cell j, ← hu]
  exact hv
/-- A step without bytes. -/
def eN (o : Int) (s t : Nm) (k : Int) : DoE := ⟨⟨o, s, t, k, []⟩, none, 0⟩
/-- An Append of bytes that lie in a block of their own. -/
def eB (s : Nm) (g : Nat) (u : List UInt8) : DoE := ⟨⟨0, s, [], 0, u⟩, some ⟨g, 0, none⟩, u.length⟩
theorem eN_ok {o k : Int} {s t : Nm} (h1 : I64 o) (h2 : I64 k) (h3 : s.length ≤ 1000) (h4 : t.length ≤ 1000) : (eN o s t k).Ok := ⟨Nat.le_refl _, Nat.zero_le _, h1, h2, by unfold maxLen; show s.length ≤ _; omega, by unfold maxLen; show t.length ≤ _; omega⟩
theorem i64_s {n : Int} (h0 : 0 ≤ n) (h1 : n ≤ 1000) : I64 n := by unfold I64; omega
theorem eB_ok {s : Nm} {g : Nat} {u : List UInt8} (h1 : s.length ≤ 1000) (h2 : u.length ≤ 1000) : (eB s g u).Ok := ⟨Nat.le_refl _, by unfold maxLen; show u.length ≤ _; omega, i64_s (n := 0) (by decide) (by decide), i64_s (n := 0) (by decide) (by decide), by unfold maxLen; show s.length ≤ _; omega, Nat.zero_le _⟩
theorem eN_rd (w : World) (o k : Int) (s t : Nm) : Rd w (fun b => b < w.heap.size ∧ UB w b) (eN o s t k).A (eN o s t k).c (u8s (bI (eN o s t k).d.u)) := Rd.none_ _ _ _ _ (fun _ => rfl)
theorem eB_rd {w : World} {s : Nm} {g : Nat} {u : List UInt8} {cs : List Value} (h : Bk w g 5 cs) (hu : u8s (bI u) = cs) : Rd w (fun b => b < w.heap.size ∧ UB w b) (eB s g u).A (eB s g u).c (u8s (bI (eB s g u).d.u)) := bk_rd u h hu _
theorem eN_cs (o k : Int) (s t : Nm) : (eN o s t k).cs = [.int .i64 o, nmV s, nmV t, .int .i64 k, .slice none 0 0] := rfl
theorem eB_cs (s : Nm) (g : Nat) (u : List UInt8) : (eB s g u).cs = [.int .i64 0, nmV s, nmV [], .int .i64 0, .slice (some ⟨g, 0, none⟩) u.length u.length] := rfl
/-- The numbers. -/
def nl : List Int := [-9223372036854775808, -1, 0, 1, 2, 3, 4, 5, 9223372036854775807]
theorem nl_i64 : ∀ x ∈ nl, I64 x := by
  intro x hx
  simp [nl] at hx
  unfold I64
  omega
def nlV : List Value := nl.map (Value.int .i64)
theorem nl_at {w : World} {g : Nat} (h : Bk w g 3 nlV) {k : Nat} (hk : k < 9) : ∃ x, w.cell? ⟨g, k, none⟩ = some (.int .i64 x) ∧ I64 x := by
  have hl : k < nl.length := hk
  refine ⟨nl[k], ?_, nl_i64 _ (List.getElem_mem hl)⟩
  rw [h.cell k]
  simp [nlV, hl]
theorem byte_u8 (k : Nat) (h : k < 256) : u8s (bI [UInt8.ofNat k]) = [.int .u8 (k : Int)] := by
  simp [bI, u8s, Nat.mod_eq_of_lt h]
theorem byte_u8a (k : Nat) (h : k < 256) : u8s (bI [97, UInt8.ofNat k]) = [.int .u8 97, .int .u8 (k : Int)] := by
  simp [bI, u8s, Nat.mod_eq_of_lt h]
theorem infoDo : (Tryz.prog.info? 31).map (fun i => (i.zero, i.size, i.bytes)) = some (some (.agg #[.int .i64 0, .string ⟨#[]⟩, .string ⟨#[]⟩, .int .i64 0, .slice none 0 0]), 5, 72) := by kernel_rfl
theorem lives_none (w : World) : Calls Tryz.prog 3 #[.int .i64 0, .slice none 0 0, .int .i64 0] w fun e w' => e = .returned (.bool true) ∧ Below w.heap.size w w' :=
  DiskLives_any 0 none 0 [] 0 w ⟨fun _ => rfl, Nat.zero_le _, Nat.zero_le _, fun h => absurd rfl h⟩
/-- Any list of the law's own lives. -/
theorem dol_lives {n0 : Nat} {es : List DoE} {v : Value} {w : World} (h : DoL n0 es v w) (room keep : Int) : Calls Tryz.prog 3 #[.int .i64 room, v, .int .i64 keep] w fun e w' => e = .returned (.bool true) ∧ Below w.heap.size w w' := by
  obtain ⟨A, c, rfl, hd⟩ := h.dos
  exact DiskLives_any room A c _ keep w hd
theorem wpAnyH_norm {P : Program} {md : Region.Mode} {ops : Array Oper} {Q : Exit → Act → World → Prop} {S : World → Prop} {fuel : Nat} {listed : Array Bool} {a : Act} {w : World} (fuel' : Nat) (listed' : Array Bool) (h1 : fuel = fuel') (h2 : listed = listed') (h : wpAnyH P md ops Q S fuel' listed' a w) : wpAnyH P md ops Q S fuel listed a w := by
  subst h1 h2
  exact h
theorem xm_i64 (x : Int) : I64 (IntKind.i64.wrap x) := by rw [IntKind.wrap_i64]; unfold I64; omega
/-- The third list of the law. -/
def rowL (x xm : Int) (g1 g2 g3 g4 : Nat) : List DoE := [eB [120] g1 [1, 2], eN 3 [120] [] 0, eB [120] g2 [3, 4], eN 4 [120] [] x, eB [120] g3 [5], eN 7 [] [] x, eB [121] g4 [6, 7, 8], eN 4 [121] [] xm, eN 8 [] [] 0, eN 5 [121] [120] 0, eN 5 [120] [120] 0, eN 7 [] [] x]
theorem row_new {n0 : Nat} {w : World} {x xm : Int} {g1 g2 g3 g4 : Nat} (h : n0 ≤ w.heap.size) (hx : I64 x) (hxm : I64 xm) (D1 : Bk w g1 5 [.int .u8 1, .int .u8 2]) (D2 : Bk w g2 5 [.int .u8 3, .int .u8 4]) (D3 : Bk w g3 5 [.int .u8 5]) (D4 : Bk w g4 5 [.int .u8 6, .int .u8 7, .int .u8 8]) :
    DoL n0 (rowL x xm g1 g2 g3 g4) (.slice (some ⟨w.heap.size, 0, none⟩) 12 12) (w.alloc (.cells (esC (rowL x xm g1 g2 g3 g4)).toArray 31)) := by
  refine dol_new _ h ?_ ?_ 12 rfl (by decide)
  · intro e he
    simp only [rowL, List.mem_cons, List.not_mem_nil, or_false] at he
    have z := i64_s (n := 0) (by decide) (by decide)
    have a3 := i64_s (n := 3) (by decide) (by decide)
    have a4 := i64_s (n := 4) (by decide) (by decide)
    have a5 := i64_s (n := 5) (by decide) (by decide)
    have a7 := i64_s (n := 7) (by decide) (by decide)
    have a8 := i64_s (n := 8) (by decide) (by decide)
    have b1 : ([120] : Nm).length ≤ 1000 := by decide
    have b2 : ([121] : Nm).length ≤ 1000 := by decide
    have b0 : ([] : Nm).length ≤ 1000 := by decide
    rcases he with rfl | rfl | rfl | rfl | rfl | rfl | rfl | rfl | rfl | rfl | rfl | rfl
    · exact eB_ok b1 (by decide)
    · exact eN_ok a3 z b1 b0
    · exact eB_ok b1 (by decide)
    · exact eN_ok a4 hx b1 b0
    · exact eB_ok b1 (by decide)
    · exact eN_ok a7 hx b0 b0
    · exact eB_ok b2 (by decide)
    · exact eN_ok a4 hxm b2 b0
    · exact eN_ok a8 z b0 b0
    · exact eN_ok a5 z b2 b1
    · exact eN_ok a5 z b1 b1
    · exact eN_ok a7 hx b0 b0
  · intro e he
    simp only [rowL, List.mem_cons, List.not_mem_nil, or_false] at he
    rcases he with rfl | rfl | rfl | rfl | rfl | rfl | rfl | rfl | rfl | rfl | rfl | rfl
    · exact eB_rd D1 rfl
    · exact eN_rd _ _ _ _ _
    · exact eB_rd D2 rfl
    · exact eN_rd _ _ _ _ _
    · exact eB_rd D3 rfl
    · exact eN_rd _ _ _ _ _
    · exact eB_rd D4 rfl
    · exact eN_rd _ _ _ _ _
    · exact eN_rd _ _ _ _ _
    · exact eN_rd _ _ _ _ _
    · exact eN_rd _ _ _ _ _
    · exact eN_rd _ _ _ _ _
/-- The fourth list. -/
theorem two_new {n0 : Nat} {w : World} {g : Nat} {l1 l2 l3 : Nm} (h : n0 ≤ w.heap.size) (h1 : l1.length ≤ 100) (h2 : l2.length ≤ 100) (h3 : l3.length ≤ 100) (D1 : Bk w g 5 [.int .u8 1]) :
    DoL n0 [eB l1 g [1], eN 5 l2 l3 0] (.slice (some ⟨w.heap.size, 0, none⟩) 2 2) (w.alloc (.cells (esC [eB l1 g [1], eN 5 l2 l3 0]).toArray 31)) := by
  refine dol_new _ h ?_ ?_ 2 rfl (by decide)
  · intro e he
    simp only [List.mem_cons, List.not_mem_nil, or_false] at he
    rcases he with rfl | rfl
    · exact eB_ok (by omega) (by decide)
    · exact eN_ok (i64_s (by decide) (by decide)) (i64_s (by decide) (by decide)) (by omega) (by omega)
  · intro e he
    simp only [List.mem_cons, List.not_mem_nil, or_false] at he
    rcases he with rfl | rfl
    · exact eB_rd D1 rfl
    · exact eN_rd _ _ _ _ _
end Go.Proofs.YtcmbeolicopicaaGreat

