/- net: NetNumbers. -/
import Derived.Test.YtenkhbiikecegaaGreatMLives
import Derived.Deep.DeepCutAuto
namespace Go.Proofs.YtenkhbiikecegaaGreat
open Go.RowKit Go.Maps Go.ChangeMaps
set_option linter.unusedVariables false
set_option linter.unusedSimpArgs false
set_option maxRecDepth 100000

/-- A step in a list, where its bytes lie. -/
structure DoE where
  d : DoV
  A : Option Addr
  c : Nat
def DoE.cs (e : DoE) : List Value := doC e.d e.A e.c
def DoE.Ok (e : DoE) : Prop := I64 e.d.o ∧ I64 e.d.f ∧ I64 e.d.t ∧ I64 e.d.k ∧ e.d.u.length ≤ e.c ∧ e.c ≤ maxLen
def esC (es : List DoE) : List Value := es.flatMap DoE.cs
theorem esC_len : ∀ (es : List DoE), (esC es).length = es.length * 5
  | [] => rfl
  | e :: es => by
    have := esC_len es
    unfold esC at *
    simp only [List.flatMap_cons, List.length_append, List.length_cons, DoE.cs, doC, List.length_nil]
    omega
theorem esC_app (a b : List DoE) : esC (a ++ b) = esC a ++ esC b := by simp [esC]
theorem esC_at {es : List DoE} {i : Nat} {e : DoE} (h : es[i]? = some e) {j : Nat} (hj : j < 5) : (esC es)[i * 5 + j]? = e.cs[j]? := by
  obtain ⟨h1, h2⟩ := List.getElem?_eq_some_iff.1 h
  have hd : (esC es).drop (i * 5) = esC (es.drop i) := by
    conv => lhs; rw [← List.take_append_drop i es, esC_app]
    rw [List.drop_append_of_le_length (by rw [esC_len, List.length_take]; omega), List.drop_eq_nil_of_le (by rw [esC_len, List.length_take]; omega), List.nil_append]
  rw [← List.getElem?_drop, hd, List.drop_eq_getElem_cons h1, h2]
  unfold esC
  rw [List.flatMap_cons, List.getElem?_append_left (by simpa [DoE.cs, doC] using hj)]
theorem esC_one (es : List DoE) : ∀ u ∈ esC es, u.oneCell' = true := by
  intro u hu
  obtain ⟨e, _, he⟩ := List.mem_flatMap.1 hu
  simp [DoE.cs, doC] at he
  rcases he with rfl | rfl | rfl | rfl | rfl <;> rfl
/-- v is a list of steps of the call's own. -/
structure DoL (n0 : Nat) (es : List DoE) (v : Value) (w : World) : Prop where
  row : w.ownsRow n0 30 5 v es.length (esC es)
  ok : ∀ e ∈ es, e.Ok
  dat : ∀ e ∈ es, Rd w (fun b => b < w.heap.size ∧ UB w b) e.A e.c (u8s (bI e.d.u))
theorem UB.keep {w w' : World} {b : Nat} (h : UB w b) (hk : w'.heap[b]? = w.heap[b]?) : UB w' b := by
  obtain ⟨cs, ow, h⟩ := h
  exact ⟨cs, ow, hk.trans h⟩
theorem DoL.below {n0 : Nat} {es : List DoE} {v : Value} {w w' : World} (h : DoL n0 es v w) (hb : Below w.heap.size w w') : DoL n0 es v w' :=
  ⟨owns_keep h.row (fun g e => hb.block g (owns_lt h.row g e)), h.ok, fun e he => (h.dat e he).keep (fun b q => hb.block b q.1) (fun b q => ⟨Nat.lt_of_lt_of_le q.1 hb.size, q.2.keep (hb.block b q.1)⟩)⟩
/-- More steps behind. -/
theorem DoL.app {n0 : Nat} {es fs : List DoE} {v v' : Value} {w w' : World} (h : DoL n0 es v w) (ho : ∀ e ∈ fs, e.Ok) (hd : ∀ e ∈ fs, Rd w (fun b => b < w.heap.size ∧ UB w b) e.A e.c (u8s (bI e.d.u))) (hr : w'.ownsRow n0 30 5 v' (es.length + fs.length) (esC es ++ esC fs)) (hg : w.grownBy w' v.ownBlock) : DoL n0 (es ++ fs) v' w' := by
  have hk : ∀ b, b < w.heap.size ∧ UB w b → w'.heap[b]? = w.heap[b]? := by
    rintro b ⟨h1, cs, ow, h2⟩
    refine hg.block b h1 fun e => ?_
    rcases h.row.2 with ⟨q, _⟩ | ⟨g, cap, cur, q, _, hg', _⟩
    · rw [q] at e; cases e
    · rw [q] at e
      have e : some b = some g := e
      injection e with e
      subst e
      rw [h2] at hg'
      injection hg' with hg'
      injection hg' with _ hg'
      exact absurd hg' (by decide)
  refine ⟨by rw [List.length_append, esC_app]; exact hr, fun e he => (List.mem_append.1 he).elim (h.ok e) (ho e), fun e he => ?_⟩
  have := (List.mem_append.1 he).elim (h.dat e) (hd e)
  exact this.keep hk (fun b q => ⟨Nat.lt_of_lt_of_le q.1 hg.size, q.2.keep (hk b q)⟩)
theorem DoL.dos {n0 : Nat} {es : List DoE} {v : Value} {w : World} (h : DoL n0 es v w) : ∃ A c, v = .slice A (es.map DoE.d).length c ∧ Dos w (fun b => b < w.heap.size) A c (es.map DoE.d) := by
  obtain ⟨A, c, rfl⟩ := owns_form h.row
  obtain ⟨n1, n2⟩ := owns_none h.row
  refine ⟨A, c, by rw [List.length_map], fun e => (n1 e).2, ?_⟩
  rw [List.length_map]
  cases A with
  | none =>
    obtain ⟨e1, e2⟩ := n1 rfl
    have : es = [] := List.eq_nil_of_length_eq_zero e1
    subst this
    exact ⟨Nat.zero_le _, by rw [e2]; decide, fun hx => absurd rfl hx⟩
  | some ad =>
    obtain ⟨e0, e1, e2, e3, e4, e5⟩ := n2 ad rfl
    refine ⟨e3, e4, fun _ => ⟨ad, rfl, fun i d hi => ?_⟩⟩
    rw [List.getElem?_map] at hi
    obtain ⟨e, he, rfl⟩ := Option.map_eq_some_iff.1 hi
    have hm := List.mem_of_getElem? he
    obtain ⟨o1, o2, o3, o4, o5, o6⟩ := h.ok e hm
    have hadd := Addr.add_add ad
    refine ⟨e.A, e.c, by rw [add_blk]; exact e2, fun j hj => ?_, (h.dat e hm).keep (fun _ _ => rfl) (fun b q => q.1), o5, o6, o1, o2, o3, o4⟩
    have hx := esC_at he hj
    cases hu : e.cs[j]? with
    | none => rw [List.getElem?_eq_none_iff] at hu; simp [DoE.cs, doC] at hu; omega
    | some u =>
      rw [hadd]
      rw [hu] at hx
      rw [e5 _ _ hx]
      exact hu.symm
/-- The numbers. -/
def nl : List Int := [-9223372036854775808, -1, 0, 1, 2, 62, 63, 64, 65, 9223372036854775807]
theorem nl_i64 : ∀ x ∈ nl, I64 x := by
  intro x hx
  simp [nl] at hx
  unfold I64
  omega
def nlV : List Value := nl.map (Value.int .i64)
theorem nl_at {w : World} {g : Nat} (h : Bk w g 3 nlV) {k : Nat} (hk : k < 10) : ∃ x, w.cell? ⟨g, k, none⟩ = some (.int .i64 x) ∧ I64 x := by
  have hl : k < nl.length := hk
  refine ⟨nl[k], ?_, nl_i64 _ (List.getElem_mem hl)⟩
  rw [h.cell k]
  simp [nlV, hl]
theorem dol_new {n0 : Nat} {w : World} (es : List DoE) (h : n0 ≤ w.heap.size) (ok : ∀ e ∈ es, e.Ok) (dat : ∀ e ∈ es, Rd w (fun b => b < w.heap.size ∧ UB w b) e.A e.c (u8s (bI e.d.u))) (n : Nat) (hn : es.length = n) (hm : n ≤ 1000000) :
    DoL n0 es (.slice (some ⟨w.heap.size, 0, none⟩) n n) (w.alloc (.cells (esC es).toArray 30)) := by
  subst hn
  have hb : Below w.heap.size w (w.alloc (.cells (esC es).toArray 30)) := (Below.refl _ _).alloc (Nat.le_refl _) _
  refine ⟨⟨esC_len es, .inr ⟨w.heap.size, es.length, _, rfl, h, heap_alloc_new w _, Nat.le_refl _, by unfold maxLen; omega, by simp [esC_len], ?_⟩⟩, ok, fun e he => (dat e he).keep (fun b q => hb.block b q.1) (fun b q => ⟨Nat.lt_of_lt_of_le q.1 hb.size, q.2.keep (hb.block b q.1)⟩)⟩
  rw [List.take_of_length_le (by simp [esC_len])]
theorem bk_rd1 {w : World} {g : Nat} {x : Int} (u : List UInt8) (h : Bk w g 5 [.int .u8 x]) (hu : u8s (bI u) = [.int .u8 x]) (c : Nat) : Rd w (fun b => b < w.heap.size ∧ UB w b) (some ⟨g, 0, none⟩) c (u8s (bI u)) := by
  refine ⟨(fun e => by cases e), fun _ => ⟨_, rfl, ⟨h.lt, _, _, h⟩, fun j v hv => ?_⟩⟩
  have hadd : (⟨g, 0, none⟩ : Addr).add j = ⟨g, j, none⟩ := by unfold Addr.add; split <;> simp_all
  rw [hadd, h.cell j, ← hu]
  exact hv
def ex (o f t k : Int) : DoE := ⟨⟨o, f, t, k, []⟩, none, 0⟩
theorem ex_ok {o f t k : Int} (h1 : I64 o) (h2 : I64 f) (h3 : I64 t) (h4 : I64 k) : (ex o f t k).Ok := ⟨h1, h2, h3, h4, Nat.le_refl _, Nat.zero_le _⟩
theorem ex_rd (w : World) (o f t k : Int) : Rd w (fun b => b < w.heap.size ∧ UB w b) (ex o f t k).A (ex o f t k).c (u8s (bI (ex o f t k).d.u)) := Rd.none_ _ _ _ _ (fun _ => rfl)
theorem zeros_rd {w : World} {base g N : Nat} (h : w.ownsRow base 5 1 (.slice (some ⟨g, 0, none⟩) N N) N (madeCells (Value.cells (.int .u8 0)) (N * 1)).toList) (o n : Nat) (hn : o + n ≤ N) : ∃ pk : List Int, pk.length = n ∧ ∀ w' : World, w'.heap[g]? = w.heap[g]? → Rd w' (fun b => b = g) (some ⟨g, o, none⟩) n (u8s pk) := by
  rcases h.2 with ⟨h', _⟩ | ⟨g', cap', cur, h', hb, hg, hnc, hcm, hcs, htake⟩
  · simp at h'
  · simp only [Value.slice.injEq, Option.some.injEq, Addr.mk.injEq, and_true, true_and] at h'
    obtain ⟨rfl, rfl⟩ := h'
    have hc : ∀ j, j < N → w.cell? ⟨g, j, none⟩ = some (.int .u8 0) := by
      intro j hj
      rw [cell_of_row w g j _ _ _ hg]
      have h1 : (cur.toList.take (N * 1))[j]? = some (.int .u8 0) := by
        rw [htake, Array.getElem?_toList]
        simp [madeCells, Value.cells, hj, Nat.mod_one]
      rw [List.getElem?_take, if_pos (by omega)] at h1
      simpa using h1
    refine ⟨List.replicate n 0, List.length_replicate, fun w' hw' => ⟨fun e => (by cases e), fun _ => ⟨_, rfl, rfl, fun j u hu => ?_⟩⟩⟩
    simp only [u8s, List.map_replicate] at hu
    have hj := (List.getElem?_eq_some_iff.1 hu).1
    rw [List.length_replicate] at hj
    rw [List.getElem?_replicate, if_pos hj] at hu
    injection hu with hu
    subst hu
    rw [show Addr.add ⟨g, o, none⟩ j = ⟨g, o + j, none⟩ by unfold Addr.add; split <;> simp_all]
    exact (World.cell?_of_block hw').trans (hc _ (by omega))
theorem one_in : I64 1 ∧ I64 2 := by unfold I64; omega
theorem send_fits {B : Nat → Prop} {N n o g : Nat} {l : List Int} (hl : l.length = n) (hn : n ≤ 262144) (w : World) (h : NB B N (fun _ _ => []) [] w) (hr : Rd w (fun b => b = g) (some ⟨g, o, none⟩) n (u8s l)) (hg : g < w.heap.size) :
    Calls Tryz.prog 15 #[.pointer (some ⟨N, 0, none⟩), .int .i64 1, .int .i64 2, .slice (some ⟨g, o, none⟩) n n] w fun e w' => e = .returned (.int .i64 0) ∧ Did B N (upd (fun _ _ => []) 1 2 [l]) [] w w' := by
  subst hl
  refine (op_send 1 2 one_in.1 one_in.2 _ _ l w h hr (fun k e => by subst e; exact hg)).mono ?_
  rintro e w' ⟨he, hd⟩
  have hE : sndE (fun _ _ => []) 1 2 l = 0 := by unfold sndE; rw [if_neg (by omega)]; rfl
  refine ⟨by rw [he, hE], ?_⟩
  rw [show sndS (fun _ _ => []) 1 2 l = upd (fun _ _ => []) 1 2 [l] by unfold sndS; rw [if_pos hE]; rfl] at hd
  exact hd
theorem send_long {B : Nat → Prop} {N n o g : Nat} {l : List Int} {S : Sg} (hl : l.length = n) (hn : 262144 < n) (w : World) (h : NB B N S [] w) (hr : Rd w (fun b => b = g) (some ⟨g, o, none⟩) n (u8s l)) (hg : g < w.heap.size) :
    Calls Tryz.prog 15 #[.pointer (some ⟨N, 0, none⟩), .int .i64 1, .int .i64 2, .slice (some ⟨g, o, none⟩) n n] w fun e w' => e = .returned (.int .i64 3) ∧ Did B N S [] w w' := by
  subst hl
  refine (op_send 1 2 one_in.1 one_in.2 _ _ l w h hr (fun k e => by subst e; exact hg)).mono ?_
  rintro e w' ⟨he, hd⟩
  have hE : sndE S 1 2 l = 3 := by unfold sndE; rw [if_pos hn]
  refine ⟨by rw [he, hE], ?_⟩
  rw [show sndS S 1 2 l = S by unfold sndS; rw [hE]; rfl] at hd
  exact hd
theorem lives_none (w : World) : Calls Tryz.prog 3 #[.slice none 0 0] w fun e w' => e = .returned (.bool true) ∧ Below w.heap.size w w' :=
  NetLives_any none 0 [] w ⟨fun _ => rfl, Nat.zero_le _, Nat.zero_le _, fun h => absurd rfl h⟩
theorem infoDo : (Tryz.prog.info? 30).map (fun i => (i.zero, i.size, i.bytes)) = some (some (.agg #[.int .i64 0, .int .i64 0, .int .i64 0, .int .i64 0, .slice none 0 0]), 5, 56) := by kernel_rfl
theorem one_max : 1 ≤ maxLen := by decide
theorem i64_s {n : Int} (h0 : 0 ≤ n) (h1 : n ≤ 1000) : I64 n := by unfold I64; omega
theorem four_new {n0 : Nat} {w : World} {x : Int} {g1 g2 g3 : Nat} (h : n0 ≤ w.heap.size) (hx : I64 x) (D1 : Rd w (fun b => b < w.heap.size ∧ UB w b) (some ⟨g1, 0, none⟩) 1 (u8s (bI [1]))) (D2 : Rd w (fun b => b < w.heap.size ∧ UB w b) (some ⟨g2, 0, none⟩) 1 (u8s (bI [2]))) (D3 : Rd w (fun b => b < w.heap.size ∧ UB w b) (some ⟨g3, 0, none⟩) 1 (u8s (bI [3]))) :
    DoL n0 [⟨⟨0, x, 1, 0, [1]⟩, some ⟨g1, 0, none⟩, 1⟩, ⟨⟨0, 1, x, 0, [2]⟩, some ⟨g2, 0, none⟩, 1⟩, ⟨⟨6, 3, 3, 69, [3]⟩, some ⟨g3, 0, none⟩, 1⟩, ex 0 3 3 0] (.slice (some ⟨w.heap.size, 0, none⟩) 4 4) (w.alloc (.cells #[.int .i64 0, .int .i64 x, .int .i64 1, .int .i64 0, .slice (some ⟨g1, 0, none⟩) 1 1, .int .i64 0, .int .i64 1, .int .i64 x, .int .i64 0, .slice (some ⟨g2, 0, none⟩) 1 1, .int .i64 6, .int .i64 3, .int .i64 3, .int .i64 69, .slice (some ⟨g3, 0, none⟩) 1 1, .int .i64 0, .int .i64 3, .int .i64 3, .int .i64 0, .slice none 0 0] 30)) := by
  refine dol_new _ h ?_ ?_ 4 rfl (by decide)
  · intro e he
    simp at he
    have z := i64_s (n := 0) (by decide) (by decide)
    have o := i64_s (n := 1) (by decide) (by decide)
    have t := i64_s (n := 3) (by decide) (by decide)
    have s := i64_s (n := 6) (by decide) (by decide)
    have s2 := i64_s (n := 69) (by decide) (by decide)
    rcases he with rfl | rfl | rfl | rfl
    · exact ⟨z, hx, o, z, Nat.le_refl 1, one_max⟩
    · exact ⟨z, o, hx, z, Nat.le_refl 1, one_max⟩
    · exact ⟨s, t, t, s2, Nat.le_refl 1, one_max⟩
    · exact ex_ok z t t z
  · intro e he
    simp at he
    rcases he with rfl | rfl | rfl | rfl
    · exact D1
    · exact D2
    · exact D3
    · exact ex_rd _ _ _ _ _
theorem doC_lit (o f t k : Int) (u : List UInt8) (A : Option Addr) (c n : Nat) (hn : u.length = n) : doC ⟨o, f, t, k, u⟩ A c = [.int .i64 o, .int .i64 f, .int .i64 t, .int .i64 k, .slice A n c] := by subst hn; rfl
set_option maxHeartbeats 8000000 in
theorem NetNumbers_any (w : World) : Calls Tryz.prog 4 #[] w fun e w' => e = .returned (.bool true) ∧ Below w.heap.size w w' := by
  go_enter Tryz.func4, Tryz.ntmps4
  go_wp2_with fail
  have hN0 : Bk (w.alloc (.cells #[.int .i64 (-9223372036854775808), .int .i64 (-1), .int .i64 0, .int .i64 1, .int .i64 2, .int .i64 62, .int .i64 63, .int .i64 64, .int .i64 65, .int .i64 9223372036854775807] 3)) w.heap.size 3 nlV := Bk.new w 3 nlV
  have hb0 : Below w.heap.size w (w.alloc (.cells #[.int .i64 (-9223372036854775808), .int .i64 (-1), .int .i64 0, .int .i64 1, .int .i64 2, .int .i64 62, .int .i64 63, .int .i64 64, .int .i64 65, .int .i64 9223372036854775807] 3)) := (Below.refl _ _).alloc (Nat.le_refl _) _
  generalize (w.alloc (.cells #[.int .i64 (-9223372036854775808), .int .i64 (-1), .int .i64 0, .int .i64 1, .int .i64 2, .int .i64 62, .int .i64 63, .int .i64 64, .int .i64 65, .int .i64 9223372036854775807] 3)) = wn at *
  obtain ⟨gN, hgN⟩ : ∃ g, g = w.heap.size := ⟨_, rfl⟩
  rw [← hgN] at hN0 ⊢
  have HG := Lib.hid hgN
  clear hgN
  go_loopw [2] (fun i wr => ∃ k : Nat, k ≤ 10 ∧ i = .int .i64 k ∧ Bk wr gN 3 nlV ∧ Below w.heap.size w wr) (fun i _ => 10 - (intOf i).toNat)
  case atStart => exact ⟨0, by omega, rfl, hN0, hb0⟩
  case round =>
    clear hN0 hb0
    obtain ⟨i, hi, rfl, hN, hb⟩ := hrel
    by_cases hlt : i < 10
    · have d1 : decide ((i : Int) < 10) = true := decide_eq_true (by omega)
      obtain ⟨x, cx, hx⟩ := nl_at hN hlt
      have q1 : (0 : Int) ≤ (i : Int) := by omega
      have q2 : (i : Int) < 10 := by omega
      have HN := Lib.hid hN
      clear hN
      go_upto_region 6 with (fail)
      go_cut [3] (fun v wx => ∃ es, es.length = 4 ∧ DoL wr.heap.size es v wx ∧ Below wr.heap.size wr wx)
      case first =>
        refine wp_region_held_drew (S := fun W' => W'.cell? ⟨gN, i, none⟩ = some (.int .i64 x)) (by kernel_rfl) (by simpa using cx) (fun hS => ?_)
        have hBc : ∀ W', Below wr.heap.size wr W' → W'.cell? ⟨gN, i, none⟩ = some (.int .i64 x) := fun W' h => (World.cell?_of_block (h.block gN HN.out.lt)).trans cx
        refine wpAnyH_take (i := 0) (v := ?_) rfl (by kernel_rfl) (by kernel_rfl) (by kernel_rfl) (fun _ _ _ h => h) (Or.inl ⟨by rfl, ?_⟩) hS ?_
        rotate_left 1
        · intro w' hSw
          go_simp <;> with_reducible rfl
        try simp only [List.getElem_toArray, List.getElem_cons_zero, List.getElem_cons_succ, Act.put, List.setIfInBounds_toArray, List.set_cons_zero, List.set_cons_succ]
        refine wpAnyH_take (i := 1) (v := ?_) rfl (by kernel_rfl) (by kernel_rfl) (by kernel_rfl) (fun _ _ _ h => h) (Or.inl ⟨by rfl, ?_⟩) hS ?_
        rotate_left 1
        · intro w' hSw
          go_simp <;> with_reducible rfl
        try simp only [List.getElem_toArray, List.getElem_cons_zero, List.getElem_cons_succ, Act.put, List.setIfInBounds_toArray, List.set_cons_zero, List.set_cons_succ]
        refine wpAnyH_take (i := 2) (v := ?_) rfl (by kernel_rfl) (by kernel_rfl) (by kernel_rfl) (fun _ _ _ h => h) (Or.inl ⟨by rfl, ?_⟩) hS ?_
        rotate_left 1
        · intro w' hSw
          go_simp <;> with_reducible rfl
        try simp only [List.getElem_toArray, List.getElem_cons_zero, List.getElem_cons_succ, Act.put, List.setIfInBounds_toArray, List.set_cons_zero, List.set_cons_succ]
        refine wpAnyH_take (i := 3) (v := ?_) rfl (by kernel_rfl) (by kernel_rfl) (by kernel_rfl) (fun _ _ _ h => h) (Or.inl ⟨by rfl, ?_⟩) hS ?_
        rotate_left 1
        · intro w' hSw
          go_simp <;> with_reducible rfl
        try simp only [List.getElem_toArray, List.getElem_cons_zero, List.getElem_cons_succ, Act.put, List.setIfInBounds_toArray, List.set_cons_zero, List.set_cons_succ]
        refine wpAnyH_take (i := 6) (v := ?_) rfl (by kernel_rfl) (by kernel_rfl) (by kernel_rfl) (fun _ _ _ h => h) (Or.inl ⟨by rfl, ?_⟩) hS ?_
        rotate_left 1
        · intro w' hSw
          go_simp <;> with_reducible rfl
        try simp only [List.getElem_toArray, List.getElem_cons_zero, List.getElem_cons_succ, Act.put, List.setIfInBounds_toArray, List.set_cons_zero, List.set_cons_succ]
        refine wpAnyH_take (i := 7) (v := ?_) rfl (by kernel_rfl) (by kernel_rfl) (by kernel_rfl) (fun _ _ _ h => h) (Or.inl ⟨by rfl, ?_⟩) hS ?_
        rotate_left 1
        · intro w' hSw
          go_simp <;> with_reducible rfl
        try simp only [List.getElem_toArray, List.getElem_cons_zero, List.getElem_cons_succ, Act.put, List.setIfInBounds_toArray, List.set_cons_zero, List.set_cons_succ]
        refine wpAnyH_take (i := 8) (v := ?_) rfl (by kernel_rfl) (by kernel_rfl) (by kernel_rfl) (fun _ _ _ h => h) (Or.inl ⟨by rfl, ?_⟩) hS ?_
        rotate_left 1
        · intro w' hSw
          go_simp <;> with_reducible rfl
        try simp only [List.getElem_toArray, List.getElem_cons_zero, List.getElem_cons_succ, Act.put, List.setIfInBounds_toArray, List.set_cons_zero, List.set_cons_succ]
        refine wpAnyH_take (i := 9) (v := ?_) rfl (by kernel_rfl) (by kernel_rfl) (by kernel_rfl) (fun _ _ _ h => h) (Or.inl ⟨by rfl, ?_⟩) hS ?_
        rotate_left 1
        · intro w' hSw
          go_simp <;> with_reducible rfl
        try simp only [List.getElem_toArray, List.getElem_cons_zero, List.getElem_cons_succ, Act.put, List.setIfInBounds_toArray, List.set_cons_zero, List.set_cons_succ]
        refine wpAnyH_take (i := 14) (v := ?_) rfl (by kernel_rfl) (by kernel_rfl) (by kernel_rfl) (fun _ _ _ h => h) (Or.inl ⟨by rfl, ?_⟩) hS ?_
        rotate_left 1
        · intro w' hSw
          go_simp <;> with_reducible rfl
        try simp only [List.getElem_toArray, List.getElem_cons_zero, List.getElem_cons_succ, Act.put, List.setIfInBounds_toArray, List.set_cons_zero, List.set_cons_succ]
        have hz : Below wr.heap.size wr wr.drew := (Below.refl _ _).drew
        generalize wr.drew = wz at *
        refine wpAnyH_ready (rs := [4, 10, 12]) (by kernel_rfl) (by simp) (AllReadyH.cons rfl (fun K hK => ?_) (AllReadyH.cons rfl (fun K hK => ?_) (AllReadyH.cons rfl (fun K hK => ?_) AllReadyH.nil)))
        · go_simp
          have hn : Below wz.heap.size wz (wz.alloc (.cells #[.int .u8 1] 5)) := (Below.refl _ _).alloc (Nat.le_refl _) _
          have hz' := hz.trans (hn.mono hz.size)
          have B1 := Bk.new wz 5 [.int .u8 1]
          have B1 : Bk (wz.alloc (.cells #[.int .u8 1] 5)) wz.heap.size 5 [.int .u8 1] := B1
          refine hK _ _ (hBc _ hz') (fun hS => ?_)
          clear hK K
          try have B2 := B2.below hn B2.lt
          try have B3 := B3.below hn B3.lt
          have hz := hz'
          clear hz' hn
          generalize (wz.alloc (.cells #[.int .u8 1] 5)) = wz at *
          try simp only [List.getElem_toArray, List.getElem_cons_zero, List.getElem_cons_succ, Act.put, List.setIfInBounds_toArray, List.set_cons_zero, List.set_cons_succ]
          refine wpAnyH_take (i := 5) (v := ?_) rfl (by kernel_rfl) (by kernel_rfl) (by kernel_rfl) (fun _ _ _ h => h) (Or.inl ⟨by rfl, ?_⟩) hS ?_
          rotate_left 1
          · intro w' hSw
            go_simp <;> with_reducible rfl
          try simp only [List.getElem_toArray, List.getElem_cons_zero, List.getElem_cons_succ, Act.put, List.setIfInBounds_toArray, List.set_cons_zero, List.set_cons_succ]
          refine wpAnyH_ready (rs := [10, 12]) (by kernel_rfl) (by simp) (AllReadyH.cons rfl (fun K hK => ?_) (AllReadyH.cons rfl (fun K hK => ?_) AllReadyH.nil))
          · go_simp
            have hn : Below wz.heap.size wz (wz.alloc (.cells #[.int .u8 2] 5)) := (Below.refl _ _).alloc (Nat.le_refl _) _
            have hz' := hz.trans (hn.mono hz.size)
            have B2 := Bk.new wz 5 [.int .u8 2]
            have B2 : Bk (wz.alloc (.cells #[.int .u8 2] 5)) wz.heap.size 5 [.int .u8 2] := B2
            refine hK _ _ (hBc _ hz') (fun hS => ?_)
            clear hK K
            try have B1 := B1.below hn B1.lt
            try have B3 := B3.below hn B3.lt
            have hz := hz'
            clear hz' hn
            generalize (wz.alloc (.cells #[.int .u8 2] 5)) = wz at *
            try simp only [List.getElem_toArray, List.getElem_cons_zero, List.getElem_cons_succ, Act.put, List.setIfInBounds_toArray, List.set_cons_zero, List.set_cons_succ]
            refine wpAnyH_take (i := 11) (v := ?_) rfl (by kernel_rfl) (by kernel_rfl) (by kernel_rfl) (fun _ _ _ h => h) (Or.inl ⟨by rfl, ?_⟩) hS ?_
            rotate_left 1
            · intro w' hSw
              go_simp <;> with_reducible rfl
            try simp only [List.getElem_toArray, List.getElem_cons_zero, List.getElem_cons_succ, Act.put, List.setIfInBounds_toArray, List.set_cons_zero, List.set_cons_succ]
            refine wpAnyH_ready (rs := [12]) (by kernel_rfl) (by simp) (AllReadyH.cons rfl (fun K hK => ?_) AllReadyH.nil)
            go_simp
            have hn : Below wz.heap.size wz (wz.alloc (.cells #[.int .u8 3] 5)) := (Below.refl _ _).alloc (Nat.le_refl _) _
            have hz' := hz.trans (hn.mono hz.size)
            have B3 := Bk.new wz 5 [.int .u8 3]
            have B3 : Bk (wz.alloc (.cells #[.int .u8 3] 5)) wz.heap.size 5 [.int .u8 3] := B3
            refine hK _ _ (hBc _ hz') (fun hS => ?_)
            clear hK K
            try have B1 := B1.below hn B1.lt
            try have B2 := B2.below hn B2.lt
            have hz := hz'
            clear hz' hn
            generalize (wz.alloc (.cells #[.int .u8 3] 5)) = wz at *
            try simp only [List.getElem_toArray, List.getElem_cons_zero, List.getElem_cons_succ, Act.put, List.setIfInBounds_toArray, List.set_cons_zero, List.set_cons_succ]
            refine wpAnyH_take (i := 13) (v := ?_) rfl (by kernel_rfl) (by kernel_rfl) (by kernel_rfl) (fun _ _ _ h => h) (Or.inl ⟨by rfl, ?_⟩) hS ?_
            rotate_left 1
            · intro w' hSw
              go_simp <;> with_reducible rfl
            try simp only [List.getElem_toArray, List.getElem_cons_zero, List.getElem_cons_succ, Act.put, List.setIfInBounds_toArray, List.set_cons_zero, List.set_cons_succ]
            refine wpAnyH_ready (rs := [15]) (by kernel_rfl) (by simp) (AllReadyH.cons rfl (fun K hK => ?_) AllReadyH.nil)
            go_simp
            refine hK _ _ (hBc _ (hz.trans (((Below.refl _ _).alloc (Nat.le_refl _) _).mono hz.size))) (fun hS => ?_)
            clear hK K
            try simp only [List.getElem_toArray, List.getElem_cons_zero, List.getElem_cons_succ, Act.put, List.setIfInBounds_toArray, List.set_cons_zero, List.set_cons_succ]
            refine wpAnyH_ready (rs := [16]) (by kernel_rfl) (by simp) (AllReadyH.cons rfl (fun K hK => ?_) AllReadyH.nil)
            go_simp
            refine hK _ _ hS (fun hS => ?_)
            clear hK K
            try simp only [List.getElem_toArray, List.getElem_cons_zero, List.getElem_cons_succ, Act.put, List.setIfInBounds_toArray, List.set_cons_zero, List.set_cons_succ]
            refine wpAnyH_done (by kernel_rfl) ?_ _
            have D1 := bk_rd1 [1] B1 rfl 1
            have D2 := bk_rd1 [2] B2 rfl 1
            have D3 := bk_rd1 [3] B3 rfl 1
            have hD := four_new hz.size hx D1 D2 D3
            go_wp2_with fail
            go_meet
            exact ⟨_, rfl, hD, hz.trans (((Below.refl _ _).alloc (Nat.le_refl _) _).mono hz.size)⟩
          · go_simp
            have hn : Below wz.heap.size wz (wz.alloc (.cells #[.int .u8 3] 5)) := (Below.refl _ _).alloc (Nat.le_refl _) _
            have hz' := hz.trans (hn.mono hz.size)
            have B3 := Bk.new wz 5 [.int .u8 3]
            have B3 : Bk (wz.alloc (.cells #[.int .u8 3] 5)) wz.heap.size 5 [.int .u8 3] := B3
            refine hK _ _ (hBc _ hz') (fun hS => ?_)
            clear hK K
            try have B1 := B1.below hn B1.lt
            try have B2 := B2.below hn B2.lt
            have hz := hz'
            clear hz' hn
            generalize (wz.alloc (.cells #[.int .u8 3] 5)) = wz at *
            try simp only [List.getElem_toArray, List.getElem_cons_zero, List.getElem_cons_succ, Act.put, List.setIfInBounds_toArray, List.set_cons_zero, List.set_cons_succ]
            refine wpAnyH_take (i := 13) (v := ?_) rfl (by kernel_rfl) (by kernel_rfl) (by kernel_rfl) (fun _ _ _ h => h) (Or.inl ⟨by rfl, ?_⟩) hS ?_
            rotate_left 1
            · intro w' hSw
              go_simp <;> with_reducible rfl
            try simp only [List.getElem_toArray, List.getElem_cons_zero, List.getElem_cons_succ, Act.put, List.setIfInBounds_toArray, List.set_cons_zero, List.set_cons_succ]
            refine wpAnyH_ready (rs := [10]) (by kernel_rfl) (by simp) (AllReadyH.cons rfl (fun K hK => ?_) AllReadyH.nil)
            go_simp
            have hn : Below wz.heap.size wz (wz.alloc (.cells #[.int .u8 2] 5)) := (Below.refl _ _).alloc (Nat.le_refl _) _
            have hz' := hz.trans (hn.mono hz.size)
            have B2 := Bk.new wz 5 [.int .u8 2]
            have B2 : Bk (wz.alloc (.cells #[.int .u8 2] 5)) wz.heap.size 5 [.int .u8 2] := B2
            refine hK _ _ (hBc _ hz') (fun hS => ?_)
            clear hK K
            try have B1 := B1.below hn B1.lt
            try have B3 := B3.below hn B3.lt
            have hz := hz'
            clear hz' hn
            generalize (wz.alloc (.cells #[.int .u8 2] 5)) = wz at *
            try simp only [List.getElem_toArray, List.getElem_cons_zero, List.getElem_cons_succ, Act.put, List.setIfInBounds_toArray, List.set_cons_zero, List.set_cons_succ]
            refine wpAnyH_take (i := 11) (v := ?_) rfl (by kernel_rfl) (by kernel_rfl) (by kernel_rfl) (fun _ _ _ h => h) (Or.inl ⟨by rfl, ?_⟩) hS ?_
            rotate_left 1
            · intro w' hSw
              go_simp <;> with_reducible rfl
            try simp only [List.getElem_toArray, List.getElem_cons_zero, List.getElem_cons_succ, Act.put, List.setIfInBounds_toArray, List.set_cons_zero, List.set_cons_succ]
            refine wpAnyH_ready (rs := [15]) (by kernel_rfl) (by simp) (AllReadyH.cons rfl (fun K hK => ?_) AllReadyH.nil)
            go_simp
            refine hK _ _ (hBc _ (hz.trans (((Below.refl _ _).alloc (Nat.le_refl _) _).mono hz.size))) (fun hS => ?_)
            clear hK K
            try simp only [List.getElem_toArray, List.getElem_cons_zero, List.getElem_cons_succ, Act.put, List.setIfInBounds_toArray, List.set_cons_zero, List.set_cons_succ]
            refine wpAnyH_ready (rs := [16]) (by kernel_rfl) (by simp) (AllReadyH.cons rfl (fun K hK => ?_) AllReadyH.nil)
            go_simp
            refine hK _ _ hS (fun hS => ?_)
            clear hK K
            try simp only [List.getElem_toArray, List.getElem_cons_zero, List.getElem_cons_succ, Act.put, List.setIfInBounds_toArray, List.set_cons_zero, List.set_cons_succ]
            refine wpAnyH_done (by kernel_rfl) ?_ _
            have D1 := bk_rd1 [1] B1 rfl 1
            have D2 := bk_rd1 [2] B2 rfl 1
            have D3 := bk_rd1 [3] B3 rfl 1
            have hD := four_new hz.size hx D1 D2 D3
            go_wp2_with fail
            go_meet
            exact ⟨_, rfl, hD, hz.trans (((Below.refl _ _).alloc (Nat.le_refl _) _).mono hz.size)⟩
        · go_simp
          have hn : Below wz.heap.size wz (wz.alloc (.cells #[.int .u8 2] 5)) := (Below.refl _ _).alloc (Nat.le_refl _) _
          have hz' := hz.trans (hn.mono hz.size)
          have B2 := Bk.new wz 5 [.int .u8 2]
          have B2 : Bk (wz.alloc (.cells #[.int .u8 2] 5)) wz.heap.size 5 [.int .u8 2] := B2
          refine hK _ _ (hBc _ hz') (fun hS => ?_)
          clear hK K
          try have B1 := B1.below hn B1.lt
          try have B3 := B3.below hn B3.lt
          have hz := hz'
          clear hz' hn
          generalize (wz.alloc (.cells #[.int .u8 2] 5)) = wz at *
          try simp only [List.getElem_toArray, List.getElem_cons_zero, List.getElem_cons_succ, Act.put, List.setIfInBounds_toArray, List.set_cons_zero, List.set_cons_succ]
          refine wpAnyH_take (i := 11) (v := ?_) rfl (by kernel_rfl) (by kernel_rfl) (by kernel_rfl) (fun _ _ _ h => h) (Or.inl ⟨by rfl, ?_⟩) hS ?_
          rotate_left 1
          · intro w' hSw
            go_simp <;> with_reducible rfl
          try simp only [List.getElem_toArray, List.getElem_cons_zero, List.getElem_cons_succ, Act.put, List.setIfInBounds_toArray, List.set_cons_zero, List.set_cons_succ]
          refine wpAnyH_ready (rs := [4, 12]) (by kernel_rfl) (by simp) (AllReadyH.cons rfl (fun K hK => ?_) (AllReadyH.cons rfl (fun K hK => ?_) AllReadyH.nil))
          · go_simp
            have hn : Below wz.heap.size wz (wz.alloc (.cells #[.int .u8 1] 5)) := (Below.refl _ _).alloc (Nat.le_refl _) _
            have hz' := hz.trans (hn.mono hz.size)
            have B1 := Bk.new wz 5 [.int .u8 1]
            have B1 : Bk (wz.alloc (.cells #[.int .u8 1] 5)) wz.heap.size 5 [.int .u8 1] := B1
            refine hK _ _ (hBc _ hz') (fun hS => ?_)
            clear hK K
            try have B2 := B2.below hn B2.lt
            try have B3 := B3.below hn B3.lt
            have hz := hz'
            clear hz' hn
            generalize (wz.alloc (.cells #[.int .u8 1] 5)) = wz at *
            try simp only [List.getElem_toArray, List.getElem_cons_zero, List.getElem_cons_succ, Act.put, List.setIfInBounds_toArray, List.set_cons_zero, List.set_cons_succ]
            refine wpAnyH_take (i := 5) (v := ?_) rfl (by kernel_rfl) (by kernel_rfl) (by kernel_rfl) (fun _ _ _ h => h) (Or.inl ⟨by rfl, ?_⟩) hS ?_
            rotate_left 1
            · intro w' hSw
              go_simp <;> with_reducible rfl
            try simp only [List.getElem_toArray, List.getElem_cons_zero, List.getElem_cons_succ, Act.put, List.setIfInBounds_toArray, List.set_cons_zero, List.set_cons_succ]
            refine wpAnyH_ready (rs := [12]) (by kernel_rfl) (by simp) (AllReadyH.cons rfl (fun K hK => ?_) AllReadyH.nil)
            go_simp
            have hn : Below wz.heap.size wz (wz.alloc (.cells #[.int .u8 3] 5)) := (Below.refl _ _).alloc (Nat.le_refl _) _
            have hz' := hz.trans (hn.mono hz.size)
            have B3 := Bk.new wz 5 [.int .u8 3]
            have B3 : Bk (wz.alloc (.cells #[.int .u8 3] 5)) wz.heap.size 5 [.int .u8 3] := B3
            refine hK _ _ (hBc _ hz') (fun hS => ?_)
            clear hK K
            try have B1 := B1.below hn B1.lt
            try have B2 := B2.below hn B2.lt
            have hz := hz'
            clear hz' hn
            generalize (wz.alloc (.cells #[.int .u8 3] 5)) = wz at *
            try simp only [List.getElem_toArray, List.getElem_cons_zero, List.getElem_cons_succ, Act.put, List.setIfInBounds_toArray, List.set_cons_zero, List.set_cons_succ]
            refine wpAnyH_take (i := 13) (v := ?_) rfl (by kernel_rfl) (by kernel_rfl) (by kernel_rfl) (fun _ _ _ h => h) (Or.inl ⟨by rfl, ?_⟩) hS ?_
            rotate_left 1
            · intro w' hSw
              go_simp <;> with_reducible rfl
            try simp only [List.getElem_toArray, List.getElem_cons_zero, List.getElem_cons_succ, Act.put, List.setIfInBounds_toArray, List.set_cons_zero, List.set_cons_succ]
            refine wpAnyH_ready (rs := [15]) (by kernel_rfl) (by simp) (AllReadyH.cons rfl (fun K hK => ?_) AllReadyH.nil)
            go_simp
            refine hK _ _ (hBc _ (hz.trans (((Below.refl _ _).alloc (Nat.le_refl _) _).mono hz.size))) (fun hS => ?_)
            clear hK K
            try simp only [List.getElem_toArray, List.getElem_cons_zero, List.getElem_cons_succ, Act.put, List.setIfInBounds_toArray, List.set_cons_zero, List.set_cons_succ]
            refine wpAnyH_ready (rs := [16]) (by kernel_rfl) (by simp) (AllReadyH.cons rfl (fun K hK => ?_) AllReadyH.nil)
            go_simp
            refine hK _ _ hS (fun hS => ?_)
            clear hK K
            try simp only [List.getElem_toArray, List.getElem_cons_zero, List.getElem_cons_succ, Act.put, List.setIfInBounds_toArray, List.set_cons_zero, List.set_cons_succ]
            refine wpAnyH_done (by kernel_rfl) ?_ _
            have D1 := bk_rd1 [1] B1 rfl 1
            have D2 := bk_rd1 [2] B2 rfl 1
            have D3 := bk_rd1 [3] B3 rfl 1
            have hD := four_new hz.size hx D1 D2 D3
            go_wp2_with fail
            go_meet
            exact ⟨_, rfl, hD, hz.trans (((Below.refl _ _).alloc (Nat.le_refl _) _).mono hz.size)⟩
          · go_simp
            have hn : Below wz.heap.size wz (wz.alloc (.cells #[.int .u8 3] 5)) := (Below.refl _ _).alloc (Nat.le_refl _) _
            have hz' := hz.trans (hn.mono hz.size)
            have B3 := Bk.new wz 5 [.int .u8 3]
            have B3 : Bk (wz.alloc (.cells #[.int .u8 3] 5)) wz.heap.size 5 [.int .u8 3] := B3
            refine hK _ _ (hBc _ hz') (fun hS => ?_)
            clear hK K
            try have B1 := B1.below hn B1.lt
            try have B2 := B2.below hn B2.lt
            have hz := hz'
            clear hz' hn
            generalize (wz.alloc (.cells #[.int .u8 3] 5)) = wz at *
            try simp only [List.getElem_toArray, List.getElem_cons_zero, List.getElem_cons_succ, Act.put, List.setIfInBounds_toArray, List.set_cons_zero, List.set_cons_succ]
            refine wpAnyH_take (i := 13) (v := ?_) rfl (by kernel_rfl) (by kernel_rfl) (by kernel_rfl) (fun _ _ _ h => h) (Or.inl ⟨by rfl, ?_⟩) hS ?_
            rotate_left 1
            · intro w' hSw
              go_simp <;> with_reducible rfl
            try simp only [List.getElem_toArray, List.getElem_cons_zero, List.getElem_cons_succ, Act.put, List.setIfInBounds_toArray, List.set_cons_zero, List.set_cons_succ]
            refine wpAnyH_ready (rs := [4]) (by kernel_rfl) (by simp) (AllReadyH.cons rfl (fun K hK => ?_) AllReadyH.nil)
            go_simp
            have hn : Below wz.heap.size wz (wz.alloc (.cells #[.int .u8 1] 5)) := (Below.refl _ _).alloc (Nat.le_refl _) _
            have hz' := hz.trans (hn.mono hz.size)
            have B1 := Bk.new wz 5 [.int .u8 1]
            have B1 : Bk (wz.alloc (.cells #[.int .u8 1] 5)) wz.heap.size 5 [.int .u8 1] := B1
            refine hK _ _ (hBc _ hz') (fun hS => ?_)
            clear hK K
            try have B2 := B2.below hn B2.lt
            try have B3 := B3.below hn B3.lt
            have hz := hz'
            clear hz' hn
            generalize (wz.alloc (.cells #[.int .u8 1] 5)) = wz at *
            try simp only [List.getElem_toArray, List.getElem_cons_zero, List.getElem_cons_succ, Act.put, List.setIfInBounds_toArray, List.set_cons_zero, List.set_cons_succ]
            refine wpAnyH_take (i := 5) (v := ?_) rfl (by kernel_rfl) (by kernel_rfl) (by kernel_rfl) (fun _ _ _ h => h) (Or.inl ⟨by rfl, ?_⟩) hS ?_
            rotate_left 1
            · intro w' hSw
              go_simp <;> with_reducible rfl
            try simp only [List.getElem_toArray, List.getElem_cons_zero, List.getElem_cons_succ, Act.put, List.setIfInBounds_toArray, List.set_cons_zero, List.set_cons_succ]
            refine wpAnyH_ready (rs := [15]) (by kernel_rfl) (by simp) (AllReadyH.cons rfl (fun K hK => ?_) AllReadyH.nil)
            go_simp
            refine hK _ _ (hBc _ (hz.trans (((Below.refl _ _).alloc (Nat.le_refl _) _).mono hz.size))) (fun hS => ?_)
            clear hK K
            try simp only [List.getElem_toArray, List.getElem_cons_zero, List.getElem_cons_succ, Act.put, List.setIfInBounds_toArray, List.set_cons_zero, List.set_cons_succ]
            refine wpAnyH_ready (rs := [16]) (by kernel_rfl) (by simp) (AllReadyH.cons rfl (fun K hK => ?_) AllReadyH.nil)
            go_simp
            refine hK _ _ hS (fun hS => ?_)
            clear hK K
            try simp only [List.getElem_toArray, List.getElem_cons_zero, List.getElem_cons_succ, Act.put, List.setIfInBounds_toArray, List.set_cons_zero, List.set_cons_succ]
            refine wpAnyH_done (by kernel_rfl) ?_ _
            have D1 := bk_rd1 [1] B1 rfl 1
            have D2 := bk_rd1 [2] B2 rfl 1
            have D3 := bk_rd1 [3] B3 rfl 1
            have hD := four_new hz.size hx D1 D2 D3
            go_wp2_with fail
            go_meet
            exact ⟨_, rfl, hD, hz.trans (((Below.refl _ _).alloc (Nat.le_refl _) _).mono hz.size)⟩
        · go_simp
          have hn : Below wz.heap.size wz (wz.alloc (.cells #[.int .u8 3] 5)) := (Below.refl _ _).alloc (Nat.le_refl _) _
          have hz' := hz.trans (hn.mono hz.size)
          have B3 := Bk.new wz 5 [.int .u8 3]
          have B3 : Bk (wz.alloc (.cells #[.int .u8 3] 5)) wz.heap.size 5 [.int .u8 3] := B3
          refine hK _ _ (hBc _ hz') (fun hS => ?_)
          clear hK K
          try have B1 := B1.below hn B1.lt
          try have B2 := B2.below hn B2.lt
          have hz := hz'
          clear hz' hn
          generalize (wz.alloc (.cells #[.int .u8 3] 5)) = wz at *
          try simp only [List.getElem_toArray, List.getElem_cons_zero, List.getElem_cons_succ, Act.put, List.setIfInBounds_toArray, List.set_cons_zero, List.set_cons_succ]
          refine wpAnyH_take (i := 13) (v := ?_) rfl (by kernel_rfl) (by kernel_rfl) (by kernel_rfl) (fun _ _ _ h => h) (Or.inl ⟨by rfl, ?_⟩) hS ?_
          rotate_left 1
          · intro w' hSw
            go_simp <;> with_reducible rfl
          try simp only [List.getElem_toArray, List.getElem_cons_zero, List.getElem_cons_succ, Act.put, List.setIfInBounds_toArray, List.set_cons_zero, List.set_cons_succ]
          refine wpAnyH_ready (rs := [4, 10]) (by kernel_rfl) (by simp) (AllReadyH.cons rfl (fun K hK => ?_) (AllReadyH.cons rfl (fun K hK => ?_) AllReadyH.nil))
          · go_simp
            have hn : Below wz.heap.size wz (wz.alloc (.cells #[.int .u8 1] 5)) := (Below.refl _ _).alloc (Nat.le_refl _) _
            have hz' := hz.trans (hn.mono hz.size)
            have B1 := Bk.new wz 5 [.int .u8 1]
            have B1 : Bk (wz.alloc (.cells #[.int .u8 1] 5)) wz.heap.size 5 [.int .u8 1] := B1
            refine hK _ _ (hBc _ hz') (fun hS => ?_)
            clear hK K
            try have B2 := B2.below hn B2.lt
            try have B3 := B3.below hn B3.lt
            have hz := hz'
            clear hz' hn
            generalize (wz.alloc (.cells #[.int .u8 1] 5)) = wz at *
            try simp only [List.getElem_toArray, List.getElem_cons_zero, List.getElem_cons_succ, Act.put, List.setIfInBounds_toArray, List.set_cons_zero, List.set_cons_succ]
            refine wpAnyH_take (i := 5) (v := ?_) rfl (by kernel_rfl) (by kernel_rfl) (by kernel_rfl) (fun _ _ _ h => h) (Or.inl ⟨by rfl, ?_⟩) hS ?_
            rotate_left 1
            · intro w' hSw
              go_simp <;> with_reducible rfl
            try simp only [List.getElem_toArray, List.getElem_cons_zero, List.getElem_cons_succ, Act.put, List.setIfInBounds_toArray, List.set_cons_zero, List.set_cons_succ]
            refine wpAnyH_ready (rs := [10]) (by kernel_rfl) (by simp) (AllReadyH.cons rfl (fun K hK => ?_) AllReadyH.nil)
            go_simp
            have hn : Below wz.heap.size wz (wz.alloc (.cells #[.int .u8 2] 5)) := (Below.refl _ _).alloc (Nat.le_refl _) _
            have hz' := hz.trans (hn.mono hz.size)
            have B2 := Bk.new wz 5 [.int .u8 2]
            have B2 : Bk (wz.alloc (.cells #[.int .u8 2] 5)) wz.heap.size 5 [.int .u8 2] := B2
            refine hK _ _ (hBc _ hz') (fun hS => ?_)
            clear hK K
            try have B1 := B1.below hn B1.lt
            try have B3 := B3.below hn B3.lt
            have hz := hz'
            clear hz' hn
            generalize (wz.alloc (.cells #[.int .u8 2] 5)) = wz at *
            try simp only [List.getElem_toArray, List.getElem_cons_zero, List.getElem_cons_succ, Act.put, List.setIfInBounds_toArray, List.set_cons_zero, List.set_cons_succ]
            refine wpAnyH_take (i := 11) (v := ?_) rfl (by kernel_rfl) (by kernel_rfl) (by kernel_rfl) (fun _ _ _ h => h) (Or.inl ⟨by rfl, ?_⟩) hS ?_
            rotate_left 1
            · intro w' hSw
              go_simp <;> with_reducible rfl
            try simp only [List.getElem_toArray, List.getElem_cons_zero, List.getElem_cons_succ, Act.put, List.setIfInBounds_toArray, List.set_cons_zero, List.set_cons_succ]
            refine wpAnyH_ready (rs := [15]) (by kernel_rfl) (by simp) (AllReadyH.cons rfl (fun K hK => ?_) AllReadyH.nil)
            go_simp
            refine hK _ _ (hBc _ (hz.trans (((Below.refl _ _).alloc (Nat.le_refl _) _).mono hz.size))) (fun hS => ?_)
            clear hK K
            try simp only [List.getElem_toArray, List.getElem_cons_zero, List.getElem_cons_succ, Act.put, List.setIfInBounds_toArray, List.set_cons_zero, List.set_cons_succ]
            refine wpAnyH_ready (rs := [16]) (by kernel_rfl) (by simp) (AllReadyH.cons rfl (fun K hK => ?_) AllReadyH.nil)
            go_simp
            refine hK _ _ hS (fun hS => ?_)
            clear hK K
            try simp only [List.getElem_toArray, List.getElem_cons_zero, List.getElem_cons_succ, Act.put, List.setIfInBounds_toArray, List.set_cons_zero, List.set_cons_succ]
            refine wpAnyH_done (by kernel_rfl) ?_ _
            have D1 := bk_rd1 [1] B1 rfl 1
            have D2 := bk_rd1 [2] B2 rfl 1
            have D3 := bk_rd1 [3] B3 rfl 1
            have hD := four_new hz.size hx D1 D2 D3
            go_wp2_with fail
            go_meet
            exact ⟨_, rfl, hD, hz.trans (((Below.refl _ _).alloc (Nat.le_refl _) _).mono hz.size)⟩
          · go_simp
            have hn : Below wz.heap.size wz (wz.alloc (.cells #[.int .u8 2] 5)) := (Below.refl _ _).alloc (Nat.le_refl _) _
            have hz' := hz.trans (hn.mono hz.size)
            have B2 := Bk.new wz 5 [.int .u8 2]
            have B2 : Bk (wz.alloc (.cells #[.int .u8 2] 5)) wz.heap.size 5 [.int .u8 2] := B2
            refine hK _ _ (hBc _ hz') (fun hS => ?_)
            clear hK K
            try have B1 := B1.below hn B1.lt
            try have B3 := B3.below hn B3.lt
            have hz := hz'
            clear hz' hn
            generalize (wz.alloc (.cells #[.int .u8 2] 5)) = wz at *
            try simp only [List.getElem_toArray, List.getElem_cons_zero, List.getElem_cons_succ, Act.put, List.setIfInBounds_toArray, List.set_cons_zero, List.set_cons_succ]
            refine wpAnyH_take (i := 11) (v := ?_) rfl (by kernel_rfl) (by kernel_rfl) (by kernel_rfl) (fun _ _ _ h => h) (Or.inl ⟨by rfl, ?_⟩) hS ?_
            rotate_left 1
            · intro w' hSw
              go_simp <;> with_reducible rfl
            try simp only [List.getElem_toArray, List.getElem_cons_zero, List.getElem_cons_succ, Act.put, List.setIfInBounds_toArray, List.set_cons_zero, List.set_cons_succ]
            refine wpAnyH_ready (rs := [4]) (by kernel_rfl) (by simp) (AllReadyH.cons rfl (fun K hK => ?_) AllReadyH.nil)
            go_simp
            have hn : Below wz.heap.size wz (wz.alloc (.cells #[.int .u8 1] 5)) := (Below.refl _ _).alloc (Nat.le_refl _) _
            have hz' := hz.trans (hn.mono hz.size)
            have B1 := Bk.new wz 5 [.int .u8 1]
            have B1 : Bk (wz.alloc (.cells #[.int .u8 1] 5)) wz.heap.size 5 [.int .u8 1] := B1
            refine hK _ _ (hBc _ hz') (fun hS => ?_)
            clear hK K
            try have B2 := B2.below hn B2.lt
            try have B3 := B3.below hn B3.lt
            have hz := hz'
            clear hz' hn
            generalize (wz.alloc (.cells #[.int .u8 1] 5)) = wz at *
            try simp only [List.getElem_toArray, List.getElem_cons_zero, List.getElem_cons_succ, Act.put, List.setIfInBounds_toArray, List.set_cons_zero, List.set_cons_succ]
            refine wpAnyH_take (i := 5) (v := ?_) rfl (by kernel_rfl) (by kernel_rfl) (by kernel_rfl) (fun _ _ _ h => h) (Or.inl ⟨by rfl, ?_⟩) hS ?_
            rotate_left 1
            · intro w' hSw
              go_simp <;> with_reducible rfl
            try simp only [List.getElem_toArray, List.getElem_cons_zero, List.getElem_cons_succ, Act.put, List.setIfInBounds_toArray, List.set_cons_zero, List.set_cons_succ]
            refine wpAnyH_ready (rs := [15]) (by kernel_rfl) (by simp) (AllReadyH.cons rfl (fun K hK => ?_) AllReadyH.nil)
            go_simp
            refine hK _ _ (hBc _ (hz.trans (((Below.refl _ _).alloc (Nat.le_refl _) _).mono hz.size))) (fun hS => ?_)
            clear hK K
            try simp only [List.getElem_toArray, List.getElem_cons_zero, List.getElem_cons_succ, Act.put, List.setIfInBounds_toArray, List.set_cons_zero, List.set_cons_succ]
            refine wpAnyH_ready (rs := [16]) (by kernel_rfl) (by simp) (AllReadyH.cons rfl (fun K hK => ?_) AllReadyH.nil)
            go_simp
            refine hK _ _ hS (fun hS => ?_)
            clear hK K
            try simp only [List.getElem_toArray, List.getElem_cons_zero, List.getElem_cons_succ, Act.put, List.setIfInBounds_toArray, List.set_cons_zero, List.set_cons_succ]
            refine wpAnyH_done (by kernel_rfl) ?_ _
            have D1 := bk_rd1 [1] B1 rfl 1
            have D2 := bk_rd1 [2] B2 rfl 1
            have D3 := bk_rd1 [3] B3 rfl 1
            have hD := four_new hz.size hx D1 D2 D3
            go_wp2_with fail
            go_meet
            exact ⟨_, rfl, hD, hz.trans (((Below.refl _ _).alloc (Nat.le_refl _) _).mono hz.size)⟩
      case rest =>
        obtain ⟨es0, hel0, hD0, hb1⟩ := hcut
        have HE0 := Lib.hid hel0
        clear hel0 cx
        obtain ⟨wo, hwo⟩ : ∃ wo : World, Hid (wo = wr) := ⟨_, Lib.hid rfl⟩
        rw [← hwo.out] at hD0 hb1
        have HNo : Hid (Bk wo gN 3 nlV) := Lib.hid (by rw [hwo.out]; exact HN.out)
        have hbo : Below w.heap.size w wo := by rw [hwo.out]; exact hb
        clear hb HN hwo
        go_wp2_with fail
        go_loopw [3, 4] (fun v kk wx => ∃ (k : Nat) (es : List DoE), k ≤ 10 ∧ kk = .int .i64 k ∧ es.length ≤ 4 + 5 * k ∧ DoL wo.heap.size es v wx ∧ Below wo.heap.size wo wx) (fun _ kk _ => 10 - (intOf kk).toNat)
        case atStart => exact ⟨0, es0, by omega, rfl, by have := HE0.out; omega, hD0, hb1⟩
        case round =>
          clear hD0 hb1 HE0
          obtain ⟨k, es, hk, rfl, hel, hD, hb2⟩ := hrel
          by_cases hkl : k < 10
          · have e1 : decide ((k : Int) < 10) = true := decide_eq_true (by omega)
            have hNr : Bk wr gN 3 nlV := (hb2.block gN HNo.out.lt).trans HNo.out
            obtain ⟨x, cx, hx⟩ := nl_at hNr hlt
            obtain ⟨y, cy, hy⟩ := nl_at hNr hkl
            have r1 : (0 : Int) ≤ (k : Int) := by omega
            have r2 : (k : Int) < 10 := by omega
            have hgl := hNr.lt
            have hBc : ∀ W', Below wr.heap.size wr W' → W'.cell? ⟨gN, i, none⟩ = some (.int .i64 x) ∧ W'.cell? ⟨gN, k, none⟩ = some (.int .i64 y) := fun W' h => ⟨(World.cell?_of_block (h.block gN hgl)).trans cx, (World.cell?_of_block (h.block gN hgl)).trans cy⟩
            clear hNr cx cy
            obtain ⟨A, c, rfl⟩ := owns_form hD.row
            obtain ⟨km, hkm⟩ : ∃ km, (k : Int).tmod 2 = km := ⟨_, rfl⟩
            have hkm2 : I64 km := by rw [← hkm, Int.tmod_eq_emod_of_nonneg (by omega)]; unfold I64; omega
            obtain ⟨i0, hi0, hz0, hz1, hz2⟩ := info_parts infoDo
            go_wp2_with fail
            refine wp_region_held_drew (S := fun W' => W'.cell? ⟨gN, i, none⟩ = some (.int .i64 x) ∧ W'.cell? ⟨gN, k, none⟩ = some (.int .i64 y)) (by kernel_rfl) (hBc _ (Below.refl _ _).drew) (fun hS => ?_)
            refine wpAnyH_take (i := 0) (v := ?_) rfl (by kernel_rfl) (by kernel_rfl) (by kernel_rfl) (fun _ _ _ h => h) (Or.inl ⟨by rfl, ?_⟩) hS ?_
            rotate_left 1
            · intro w' hSw
              go_simp <;> with_reducible rfl
            try simp only [List.getElem_toArray, List.getElem_cons_zero, List.getElem_cons_succ, Act.put, List.setIfInBounds_toArray, List.set_cons_zero, List.set_cons_succ]
            refine wpAnyH_take (i := 1) (v := ?_) rfl (by kernel_rfl) (by kernel_rfl) (by kernel_rfl) (fun _ _ _ h => h) (Or.inl ⟨by rfl, ?_⟩) hS ?_
            rotate_left 1
            · intro w' hSw
              go_simp <;> with_reducible rfl
            try simp only [List.getElem_toArray, List.getElem_cons_zero, List.getElem_cons_succ, Act.put, List.setIfInBounds_toArray, List.set_cons_zero, List.set_cons_succ]
            refine wpAnyH_take (i := 2) (v := ?_) rfl (by kernel_rfl) (by kernel_rfl) (by kernel_rfl) (fun _ _ _ h => h) (Or.inl ⟨by rfl, ?_⟩) hS ?_
            rotate_left 1
            · intro w' hSw
              go_simp <;> with_reducible rfl
            try simp only [List.getElem_toArray, List.getElem_cons_zero, List.getElem_cons_succ, Act.put, List.setIfInBounds_toArray, List.set_cons_zero, List.set_cons_succ]
            refine wpAnyH_take (i := 3) (v := ?_) rfl (by kernel_rfl) (by kernel_rfl) (by kernel_rfl) (fun _ _ _ h => h) (Or.inl ⟨by rfl, ?_⟩) hS ?_
            rotate_left 1
            · intro w' hSw
              go_simp <;> with_reducible rfl
            try simp only [List.getElem_toArray, List.getElem_cons_zero, List.getElem_cons_succ, Act.put, List.setIfInBounds_toArray, List.set_cons_zero, List.set_cons_succ]
            refine wpAnyH_take (i := 4) (v := ?_) rfl (by kernel_rfl) (by kernel_rfl) (by kernel_rfl) (fun _ _ _ h => h) (Or.inl ⟨by rfl, ?_⟩) hS ?_
            rotate_left 1
            · intro w' hSw
              go_simp <;> with_reducible rfl
            try simp only [List.getElem_toArray, List.getElem_cons_zero, List.getElem_cons_succ, Act.put, List.setIfInBounds_toArray, List.set_cons_zero, List.set_cons_succ]
            refine wpAnyH_take (i := 5) (v := ?_) rfl (by kernel_rfl) (by kernel_rfl) (by kernel_rfl) (fun _ _ _ h => h) (Or.inl ⟨by rfl, ?_⟩) hS ?_
            rotate_left 1
            · intro w' hSw
              go_simp <;> with_reducible rfl
            try simp only [List.getElem_toArray, List.getElem_cons_zero, List.getElem_cons_succ, Act.put, List.setIfInBounds_toArray, List.set_cons_zero, List.set_cons_succ]
            refine wpAnyH_take (i := 6) (v := ?_) rfl (by kernel_rfl) (by kernel_rfl) (by kernel_rfl) (fun _ _ _ h => h) (Or.inl ⟨by rfl, ?_⟩) hS ?_
            rotate_left 1
            · intro w' hSw
              go_simp <;> with_reducible rfl
            try simp only [List.getElem_toArray, List.getElem_cons_zero, List.getElem_cons_succ, Act.put, List.setIfInBounds_toArray, List.set_cons_zero, List.set_cons_succ]
            refine wpAnyH_take (i := 7) (v := ?_) rfl (by kernel_rfl) (by kernel_rfl) (by kernel_rfl) (fun _ _ _ h => h) (Or.inl ⟨by rfl, ?_⟩) hS ?_
            rotate_left 1
            · intro w' hSw
              go_simp <;> with_reducible rfl
            try simp only [List.getElem_toArray, List.getElem_cons_zero, List.getElem_cons_succ, Act.put, List.setIfInBounds_toArray, List.set_cons_zero, List.set_cons_succ]
            refine wpAnyH_take (i := 8) (v := ?_) rfl (by kernel_rfl) (by kernel_rfl) (by kernel_rfl) (fun _ _ _ h => h) (Or.inl ⟨by rfl, ?_⟩) hS ?_
            rotate_left 1
            · intro w' hSw
              go_simp <;> with_reducible rfl
            try simp only [List.getElem_toArray, List.getElem_cons_zero, List.getElem_cons_succ, Act.put, List.setIfInBounds_toArray, List.set_cons_zero, List.set_cons_succ]
            refine wpAnyH_take (i := 9) (v := ?_) rfl (by kernel_rfl) (by kernel_rfl) (by kernel_rfl) (fun _ _ _ h => h) (Or.inl ⟨by rfl, ?_⟩) hS ?_
            rotate_left 1
            · intro w' hSw
              go_simp <;> with_reducible rfl
            try simp only [List.getElem_toArray, List.getElem_cons_zero, List.getElem_cons_succ, Act.put, List.setIfInBounds_toArray, List.set_cons_zero, List.set_cons_succ]
            refine wpAnyH_take (i := 10) (v := ?_) rfl (by kernel_rfl) (by kernel_rfl) (by kernel_rfl) (fun _ _ _ h => h) (Or.inl ⟨by rfl, ?_⟩) hS ?_
            rotate_left 1
            · intro w' hSw
              go_simp <;> with_reducible rfl
            try simp only [List.getElem_toArray, List.getElem_cons_zero, List.getElem_cons_succ, Act.put, List.setIfInBounds_toArray, List.set_cons_zero, List.set_cons_succ]
            refine wpAnyH_take (i := 11) (v := ?_) rfl (by kernel_rfl) (by kernel_rfl) (by kernel_rfl) (fun _ _ _ h => h) (Or.inl ⟨by rfl, ?_⟩) hS ?_
            rotate_left 1
            · intro w' hSw
              go_simp <;> with_reducible rfl
            try simp only [List.getElem_toArray, List.getElem_cons_zero, List.getElem_cons_succ, Act.put, List.setIfInBounds_toArray, List.set_cons_zero, List.set_cons_succ]
            refine wpAnyH_take (i := 12) (v := ?_) rfl (by kernel_rfl) (by kernel_rfl) (by kernel_rfl) (fun _ _ _ h => h) (Or.inl ⟨by rfl, ?_⟩) hS ?_
            rotate_left 1
            · intro w' hSw
              go_simp <;> with_reducible rfl
            try simp only [List.getElem_toArray, List.getElem_cons_zero, List.getElem_cons_succ, Act.put, List.setIfInBounds_toArray, List.set_cons_zero, List.set_cons_succ]
            refine wpAnyH_take (i := 13) (v := ?_) rfl (by kernel_rfl) (by kernel_rfl) (by kernel_rfl) (fun _ _ _ h => h) (Or.inl ⟨by rfl, ?_⟩) hS ?_
            rotate_left 1
            · intro w' hSw
              go_simp <;> with_reducible rfl
            try simp only [List.getElem_toArray, List.getElem_cons_zero, List.getElem_cons_succ, Act.put, List.setIfInBounds_toArray, List.set_cons_zero, List.set_cons_succ]
            refine wpAnyH_take (i := 14) (v := ?_) rfl (by kernel_rfl) (by kernel_rfl) (by kernel_rfl) (fun _ _ _ h => h) (Or.inl ⟨by rfl, ?_⟩) hS ?_
            rotate_left 1
            · intro w' hSw
              go_simp <;> with_reducible rfl
            try simp only [List.getElem_toArray, List.getElem_cons_zero, List.getElem_cons_succ, Act.put, List.setIfInBounds_toArray, List.set_cons_zero, List.set_cons_succ]
            refine wpAnyH_take (i := 15) (v := ?_) rfl (by kernel_rfl) (by kernel_rfl) (by kernel_rfl) (fun _ _ _ h => h) (Or.inl ⟨by rfl, ?_⟩) hS ?_
            rotate_left 1
            · intro w' hSw
              go_simp <;> with_reducible rfl
            try simp only [List.getElem_toArray, List.getElem_cons_zero, List.getElem_cons_succ, Act.put, List.setIfInBounds_toArray, List.set_cons_zero, List.set_cons_succ]
            refine wpAnyH_take (i := 16) (v := ?_) rfl (by kernel_rfl) (by kernel_rfl) (by kernel_rfl) (fun _ _ _ h => h) (Or.inl ⟨by rfl, ?_⟩) hS ?_
            rotate_left 1
            · intro w' hSw
              go_simp <;> with_reducible rfl
            try simp only [List.getElem_toArray, List.getElem_cons_zero, List.getElem_cons_succ, Act.put, List.setIfInBounds_toArray, List.set_cons_zero, List.set_cons_succ]
            refine wpAnyH_take (i := 17) (v := ?_) rfl (by kernel_rfl) (by kernel_rfl) (by kernel_rfl) (fun _ _ _ h => h) (Or.inl ⟨by rfl, ?_⟩) hS ?_
            rotate_left 1
            · intro w' hSw
              go_simp <;> with_reducible rfl
            try simp only [List.getElem_toArray, List.getElem_cons_zero, List.getElem_cons_succ, Act.put, List.setIfInBounds_toArray, List.set_cons_zero, List.set_cons_succ]
            refine wpAnyH_take (i := 18) (v := ?_) rfl (by kernel_rfl) (by kernel_rfl) (by kernel_rfl) (fun _ _ _ h => h) (Or.inl ⟨by rfl, ?_⟩) hS ?_
            rotate_left 1
            · intro w' hSw
              go_simp <;> with_reducible rfl
            try simp only [List.getElem_toArray, List.getElem_cons_zero, List.getElem_cons_succ, Act.put, List.setIfInBounds_toArray, List.set_cons_zero, List.set_cons_succ]
            refine wpAnyH_take (i := 19) (v := ?_) rfl (by kernel_rfl) (by kernel_rfl) (by kernel_rfl) (fun _ _ _ h => h) (Or.inl ⟨by rfl, ?_⟩) hS ?_
            rotate_left 1
            · intro w' hSw
              go_simp <;> with_reducible rfl
            try simp only [List.getElem_toArray, List.getElem_cons_zero, List.getElem_cons_succ, Act.put, List.setIfInBounds_toArray, List.set_cons_zero, List.set_cons_succ]
            refine wpAnyH_take (i := 20) (v := ?_) rfl (by kernel_rfl) (by kernel_rfl) (by kernel_rfl) (fun _ _ _ h => h) (Or.inl ⟨by rfl, ?_⟩) hS ?_
            rotate_left 1
            · intro w' hSw
              go_simp <;> with_reducible rfl
            try simp only [List.getElem_toArray, List.getElem_cons_zero, List.getElem_cons_succ, Act.put, List.setIfInBounds_toArray, List.set_cons_zero, List.set_cons_succ]
            refine wpAnyH_take (i := 21) (v := ?_) rfl (by kernel_rfl) (by kernel_rfl) (by kernel_rfl) (fun _ _ _ h => h) (Or.inl ⟨by rfl, ?_⟩) hS ?_
            rotate_left 1
            · intro w' hSw
              go_simp <;> with_reducible rfl
            try simp only [List.getElem_toArray, List.getElem_cons_zero, List.getElem_cons_succ, Act.put, List.setIfInBounds_toArray, List.set_cons_zero, List.set_cons_succ]
            refine wpAnyH_take (i := 22) (v := ?_) rfl (by kernel_rfl) (by kernel_rfl) (by kernel_rfl) (fun _ _ _ h => h) (Or.inl ⟨by rfl, ?_⟩) hS ?_
            rotate_left 1
            · intro w' hSw
              go_simp <;> with_reducible rfl
            try simp only [List.getElem_toArray, List.getElem_cons_zero, List.getElem_cons_succ, Act.put, List.setIfInBounds_toArray, List.set_cons_zero, List.set_cons_succ]
            refine wpAnyH_take (i := 23) (v := ?_) rfl (by kernel_rfl) (by kernel_rfl) (by kernel_rfl) (fun _ _ _ h => h) (Or.inl ⟨by rfl, ?_⟩) hS ?_
            rotate_left 1
            · intro w' hSw
              go_simp <;> with_reducible rfl
            try simp only [List.getElem_toArray, List.getElem_cons_zero, List.getElem_cons_succ, Act.put, List.setIfInBounds_toArray, List.set_cons_zero, List.set_cons_succ]
            refine wpAnyH_take (i := 24) (v := ?_) rfl (by kernel_rfl) (by kernel_rfl) (by kernel_rfl) (fun _ _ _ h => h) (Or.inl ⟨by rfl, ?_⟩) hS ?_
            rotate_left 1
            · intro w' hSw
              go_simp <;> with_reducible rfl
            try simp only [List.getElem_toArray, List.getElem_cons_zero, List.getElem_cons_succ, Act.put, List.setIfInBounds_toArray, List.set_cons_zero, List.set_cons_succ]
            refine wpAnyH_take (i := 25) (v := ?_) rfl (by kernel_rfl) (by kernel_rfl) (by kernel_rfl) (fun _ _ _ h => h) (Or.inl ⟨by rfl, ?_⟩) hS ?_
            rotate_left 1
            · intro w' hSw
              go_simp <;> with_reducible rfl
            try simp only [List.getElem_toArray, List.getElem_cons_zero, List.getElem_cons_succ, Act.put, List.setIfInBounds_toArray, List.set_cons_zero, List.set_cons_succ]
            refine wpAnyH_take (i := 26) (v := ?_) rfl (by kernel_rfl) (by kernel_rfl) (by kernel_rfl) (fun _ _ _ h => h) (Or.inl ⟨by rfl, ?_⟩) hS ?_
            rotate_left 1
            · intro w' hSw
              go_simp <;> with_reducible rfl
            try simp only [List.getElem_toArray, List.getElem_cons_zero, List.getElem_cons_succ, Act.put, List.setIfInBounds_toArray, List.set_cons_zero, List.set_cons_succ]
            refine wpAnyH_take (i := 27) (v := ?_) rfl (by kernel_rfl) (by kernel_rfl) (by kernel_rfl) (fun _ _ _ h => h) (Or.inl ⟨by rfl, ?_⟩) hS ?_
            rotate_left 1
            · intro w' hSw
              go_simp <;> with_reducible rfl
            try simp only [List.getElem_toArray, List.getElem_cons_zero, List.getElem_cons_succ, Act.put, List.setIfInBounds_toArray, List.set_cons_zero, List.set_cons_succ]
            refine wpAnyH_take (i := 28) (v := ?_) rfl (by kernel_rfl) (by kernel_rfl) (by kernel_rfl) (fun _ _ _ h => h) (Or.inl ⟨by rfl, ?_⟩) hS ?_
            rotate_left 1
            · intro w' hSw
              go_simp <;> with_reducible rfl
            try simp only [List.getElem_toArray, List.getElem_cons_zero, List.getElem_cons_succ, Act.put, List.setIfInBounds_toArray, List.set_cons_zero, List.set_cons_succ]
            refine wpAnyH_take (i := 29) (v := ?_) rfl (by kernel_rfl) (by kernel_rfl) (by kernel_rfl) (fun _ _ _ h => h) (Or.inl ⟨by rfl, ?_⟩) hS ?_
            rotate_left 1
            · intro w' hSw
              go_simp <;> with_reducible rfl
            try simp only [List.getElem_toArray, List.getElem_cons_zero, List.getElem_cons_succ, Act.put, List.setIfInBounds_toArray, List.set_cons_zero, List.set_cons_succ]
            refine wpAnyH_take (i := 30) (v := ?_) rfl (by kernel_rfl) (by kernel_rfl) (by kernel_rfl) (fun _ _ _ h => h) (Or.inl ⟨by rfl, ?_⟩) hS ?_
            rotate_left 1
            · intro w' hSw
              go_simp <;> with_reducible rfl
            try simp only [List.getElem_toArray, List.getElem_cons_zero, List.getElem_cons_succ, Act.put, List.setIfInBounds_toArray, List.set_cons_zero, List.set_cons_succ]
            refine wpAnyH_take (i := 31) (v := ?_) rfl (by kernel_rfl) (by kernel_rfl) (by kernel_rfl) (fun _ _ _ h => h) (Or.inl ⟨by rfl, ?_⟩) hS ?_
            rotate_left 1
            · intro w' hSw
              go_simp <;> with_reducible rfl
            try simp only [List.getElem_toArray, List.getElem_cons_zero, List.getElem_cons_succ, Act.put, List.setIfInBounds_toArray, List.set_cons_zero, List.set_cons_succ]
            refine wpAnyH_take (i := 32) (v := ?_) rfl (by kernel_rfl) (by kernel_rfl) (by kernel_rfl) (fun _ _ _ h => h) (Or.inl ⟨by rfl, ?_⟩) hS ?_
            rotate_left 1
            · intro w' hSw
              go_simp <;> with_reducible rfl
            try simp only [List.getElem_toArray, List.getElem_cons_zero, List.getElem_cons_succ, Act.put, List.setIfInBounds_toArray, List.set_cons_zero, List.set_cons_succ]
            refine wpAnyH_take (i := 33) (v := ?_) rfl (by kernel_rfl) (by kernel_rfl) (by kernel_rfl) (fun _ _ _ h => h) (Or.inl ⟨by rfl, ?_⟩) hS ?_
            rotate_left 1
            · intro w' hSw
              go_simp <;> with_reducible rfl
            try simp only [List.getElem_toArray, List.getElem_cons_zero, List.getElem_cons_succ, Act.put, List.setIfInBounds_toArray, List.set_cons_zero, List.set_cons_succ]
            refine wpAnyH_take (i := 34) (v := ?_) rfl (by kernel_rfl) (by kernel_rfl) (by kernel_rfl) (fun _ _ _ h => h) (Or.inl ⟨by rfl, ?_⟩) hS ?_
            rotate_left 1
            · intro w' hSw
              go_simp <;> with_reducible rfl
            try simp only [List.getElem_toArray, List.getElem_cons_zero, List.getElem_cons_succ, Act.put, List.setIfInBounds_toArray, List.set_cons_zero, List.set_cons_succ]
            refine wpAnyH_take (i := 35) (v := ?_) rfl (by kernel_rfl) (by kernel_rfl) (by kernel_rfl) (fun _ _ _ h => h) (Or.inl ⟨by rfl, ?_⟩) hS ?_
            rotate_left 1
            · intro w' hSw
              go_simp <;> with_reducible rfl
            try simp only [List.getElem_toArray, List.getElem_cons_zero, List.getElem_cons_succ, Act.put, List.setIfInBounds_toArray, List.set_cons_zero, List.set_cons_succ]
            have hz : Below wr.heap.size wr wr.drew := (Below.refl _ _).drew
            have hDz := hD.below hz
            clear hD
            generalize wr.drew = wz at *
            refine wpAnyH_ready (rs := [36]) (by kernel_rfl) (by simp) (AllReadyH.cons rfl (fun K hK => ?_) AllReadyH.nil)
            go_simp
            have hn : Below wz.heap.size wz (wz.alloc (.cells #[.int .i64 5, .int .i64 3, .int .i64 3, .int .i64 y, .slice none 0 0, .int .i64 3, .int .i64 3, .int .i64 3, .int .i64 y, .slice none 0 0, .int .i64 5, .int .i64 3, .int .i64 3, .int .i64 y, .slice none 0 0, .int .i64 0, .int .i64 x, .int .i64 y, .int .i64 0, .slice none 0 0, .int .i64 4, .int .i64 x, .int .i64 y, .int .i64 km, .slice none 0 0] 30)) := (Below.refl _ _).alloc (Nat.le_refl _) _
            have hz' := hz.trans (hn.mono hz.size)
            have hDy := hDz.below hn
            have hny := news_new wz (esC [ex 5 3 3 y, ex 3 3 3 y, ex 5 3 3 y, ex 0 x y 0, ex 4 x y km]) 30
            have hny : ∀ j u, (esC [ex 5 3 3 y, ex 3 3 3 y, ex 5 3 3 y, ex 0 x y 0, ex 4 x y km])[j]? = some u → (wz.alloc (.cells #[.int .i64 5, .int .i64 3, .int .i64 3, .int .i64 y, .slice none 0 0, .int .i64 3, .int .i64 3, .int .i64 3, .int .i64 y, .slice none 0 0, .int .i64 5, .int .i64 3, .int .i64 3, .int .i64 y, .slice none 0 0, .int .i64 0, .int .i64 x, .int .i64 y, .int .i64 0, .slice none 0 0, .int .i64 4, .int .i64 x, .int .i64 y, .int .i64 km, .slice none 0 0] 30)).cell? ((⟨wz.heap.size, 0, none⟩ : Addr).add j) = some u := hny
            refine hK _ _ (hBc _ hz') (fun hS => ?_)
            clear hK K hz hDz hn
            generalize (wz.alloc (.cells #[.int .i64 5, .int .i64 3, .int .i64 3, .int .i64 y, .slice none 0 0, .int .i64 3, .int .i64 3, .int .i64 3, .int .i64 y, .slice none 0 0, .int .i64 5, .int .i64 3, .int .i64 3, .int .i64 y, .slice none 0 0, .int .i64 0, .int .i64 x, .int .i64 y, .int .i64 0, .slice none 0 0, .int .i64 4, .int .i64 x, .int .i64 y, .int .i64 km, .slice none 0 0] 30)) = wy at *
            try simp only [List.getElem_toArray, List.getElem_cons_zero, List.getElem_cons_succ, Act.put, List.setIfInBounds_toArray, List.set_cons_zero, List.set_cons_succ]
            refine wpAnyH_ready (rs := [37]) (by kernel_rfl) (by simp) (AllReadyH.cons rfl (fun K hK => ?_) AllReadyH.nil)
            refine step_append_ownA (by rfl) (.tmp 36) (.tmp 72) 22 (by rfl) wo.heap.size 30 i0 _ 5 56 Tryz.underlying22 hi0 hz0 hz1 hz2 rfl (by decide) _ es.length (esC es) (by rfl) hDy.row (some ⟨wz.heap.size, 0, none⟩) 5 5 (esC [ex 5 3 3 y, ex 3 3 3 y, ex 5 3 3 y, ex 0 x y 0, ex 4 x y km]) (by rfl) rfl (fun e => by cases e) (fun ad e => by injection e with e; subst e; exact hny) (esC_one _) (by unfold maxLen; omega) (by omega) (Nat.le_trans hb2.size hz'.size) ?_
            intro v7 w7 hr7 hgr7
            have hD7 : DoL wo.heap.size (es ++ [ex 5 3 3 y, ex 3 3 3 y, ex 5 3 3 y, ex 0 x y 0, ex 4 x y km]) v7 w7 := hDy.app (by
              have z := i64_s (n := 0) (by decide) (by decide)
              have f := i64_s (n := 5) (by decide) (by decide)
              have t := i64_s (n := 3) (by decide) (by decide)
              have q := i64_s (n := 4) (by decide) (by decide)
              intro e he
              simp at he
              rcases he with rfl | rfl | rfl | rfl | rfl
              · exact ex_ok f t t hy
              · exact ex_ok t t t hy
              · exact ex_ok f t t hy
              · exact ex_ok z hx hy z
              · exact ex_ok q hx hy hkm2) (by
              intro e he
              simp at he
              rcases he with rfl | rfl | rfl | rfl | rfl
              · exact ex_rd _ _ _ _ _
              · exact ex_rd _ _ _ _ _
              · exact ex_rd _ _ _ _ _
              · exact ex_rd _ _ _ _ _
              · exact ex_rd _ _ _ _ _) hr7 hgr7
            have hb7 : Below wo.heap.size wo w7 := (hb2.trans (hz'.mono hb2.size)).grown hgr7 (Nat.le_trans hb2.size hz'.size) (fun g e => (owns_block hDy.row g e).1)
            have hS7 : w7.cell? ⟨gN, i, none⟩ = some (.int .i64 x) ∧ w7.cell? ⟨gN, k, none⟩ = some (.int .i64 y) := by
              have hq : w7.heap[gN]? = wy.heap[gN]? := hgr7.block gN (Nat.lt_of_lt_of_le hgl hz'.size) (fun e => by have := (owns_block hDy.row gN e.symm).1; have := HNo.out.lt; omega)
              exact ⟨(World.cell?_of_block hq).trans hS.1, (World.cell?_of_block hq).trans hS.2⟩
            refine hK _ _ hS7 (fun hS => ?_)
            clear hK K hr7 hgr7 hDy hny hz'
            try simp only [List.getElem_toArray, List.getElem_cons_zero, List.getElem_cons_succ, Act.put, List.setIfInBounds_toArray, List.set_cons_zero, List.set_cons_succ]
            refine wpAnyH_ready (rs := [38]) (by kernel_rfl) (by simp) (AllReadyH.cons rfl (fun K hK => ?_) AllReadyH.nil)
            go_simp
            refine hK _ _ hS (fun hS => ?_)
            clear hK K
            try simp only [List.getElem_toArray, List.getElem_cons_zero, List.getElem_cons_succ, Act.put, List.setIfInBounds_toArray, List.set_cons_zero, List.set_cons_succ]
            refine wpAnyH_done (by kernel_rfl) ?_ _
            go_ways
            go_wp2_with fail
            go_roundw
            case rel => exact ⟨k + 1, _, by omega, by go_num, by simp; omega, hD7, hb7⟩
            case measure => simp [intOf]; omega
          · have e1 : decide ((k : Int) < 10) = false := decide_eq_false (by omega)
            obtain ⟨A, c, hv, hdos⟩ := hD.dos
            rw [List.length_map] at hv
            subst hv
            have hcon := NetLives_any A c (es.map DoE.d) wr hdos
            rw [List.length_map] at hcon
            clear hD hdos
            go_wp2_with fail
            (with_reducible refine hcon.mono ?_)
            rintro _ w5 ⟨rfl, hb5⟩
            have hb6 := hb2.trans (hb5.mono hb2.size)
            clear hcon hb5 hb2
            go_wp2_with fail
            go_roundw
            case rel => exact ⟨i + 1, by omega, by go_num, (hb6.block gN HNo.out.lt).trans HNo.out, hbo.trans (hb6.mono hbo.size)⟩
            case measure => simp [intOf]; omega
    · have d1 : decide ((i : Int) < 10) = false := decide_eq_false (by omega)
      go_wp2_with fail
      refine (op_new wr).mono ?_
      rintro _ w1 ⟨N, rfl, ⟨B, hB, hN1⟩, b1⟩
      have hb1 := hb.trans (b1.mono hb.size)
      have HB : Hid (∀ j, B j → w.heap.size ≤ j) := Lib.hid (fun j q => Nat.le_trans hb.size (hB j q))
      clear hB hN hb b1
      obtain ⟨i0, hi0, hz0, hz1, hz2⟩ := info_parts infoU8
      have hw1 : w.heap.size ≤ w1.heap.size := hb1.size
      obtain ⟨g, hg⟩ : ∃ g, Hid (g = w1.heap.size) := ⟨_, Lib.hid rfl⟩
      go_wp2_with (at_make; refine wpList_make_full _ rfl _ _ 28 rfl w1.heap.size 5 i0 (.int .u8 0) 1 Tryz.underlying28 hi0 hz0 hz1 _ _ _ _ 262145 rfl rfl rfl rfl (by rw [hz2]; decide) (by decide) (Nat.le_refl _) ?_; intro wz hownz hgz)
      obtain ⟨p1, l1, r1⟩ := zeros_rd hownz 1 262144 (by decide)
      obtain ⟨p0, l0, r0⟩ := zeros_rd hownz 0 262145 (by decide)
      have hgl : w1.heap.size < wz.heap.size := owns_lt hownz _ rfl
      have hbz : Below w1.heap.size w1 wz := (Below.refl _ _).grown hgz (Nat.le_refl _) (fun k e => by cases e)
      have hNz := hN1.below hbz
      have hbwz := hb1.trans (hbz.mono hw1)
      have HBl := Lib.hid (fun j (q : B j) => hN1.lt q)
      have HS0 := send_fits l1 (Nat.le_refl _) wz hNz (r1 wz rfl) hgl
      have HL0 := Lib.hid l0
      have HR0 := Lib.hid r0
      clear hownz hgz l1 r1 l0 r0 hbz hNz hN1 hb1
      go_wp2_with fail
      (with_reducible refine HS0.mono ?_)
      rintro _ w2 ⟨rfl, B2, k1, k2, k3⟩
      clear HS0
      have hg2 : w2.heap[w1.heap.size]? = wz.heap[w1.heap.size]? := k3.block _ hgl (fun q => by have := HBl.out _ q; omega)
      have hl2 : w1.heap.size < w2.heap.size := Nat.lt_of_lt_of_le hgl k3.size
      have hbw2 : Below w.heap.size w w2 := hbwz.trans (k3.below HB.out hbwz.size)
      have HS1 := send_long HL0.out (by decide) w2 k2 (HR0.out w2 hg2) hl2
      have HB2 : Hid (∀ j, B2 j → w.heap.size ≤ j) := Lib.hid (fun j q => (k1 j q).elim (HB.out j) (fun q => Nat.le_trans hbwz.size q))
      clear HL0 HR0 k1 k2 k3
      go_wp2_with fail
      (with_reducible refine HS1.mono ?_)
      rintro _ w3 ⟨rfl, B3, k1, k2, k3⟩
      clear HS1
      have hbw3 : Below w.heap.size w w3 := hbw2.trans (k3.below HB2.out hbw2.size)
      have HW := op_wait 1 2 one_in.1 one_in.2 w3 k2
      rw [show ((upd (fun _ _ => []) 1 2 [p1] 1 2).length : Int) = 1 by simp [upd]] at HW
      clear k1 k2 k3
      go_wp2_with fail
      (with_reducible refine HW.mono ?_)
      rintro _ w4 ⟨rfl, hb4⟩
      have hbw4 := hbw3.trans (hb4.mono hbw3.size)
      clear HW hb4
      go_wp2_with fail
      (with_reducible refine (lives_none w4).mono ?_)
      rintro _ w5 ⟨rfl, hb5⟩
      have hbw5 := hbw4.trans (hb5.mono hbw4.size)
      go_wp2_with fail
      refine (awake_any w5).mono ?_
      rintro _ w6 ⟨rfl, hb6⟩
      go_wp2_with fail
      go_ret
      exact ⟨rfl, hbw5.trans (hb6.mono hbw5.size)⟩
end Go.Proofs.YtenkhbiikecegaaGreat

