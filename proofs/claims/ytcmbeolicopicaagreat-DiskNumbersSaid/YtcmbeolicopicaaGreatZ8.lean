/- disk: texts out of bytes. disk: string(b). disk: Pick. disk: steps that came in. -/
import Derived.Laws.IdiomStrings
import Derived.Test.YtcmbeolicopicaaGreatDAwk
import Derived.OpenShut
import Derived.ShutString
import Derived.ChangeOld
import Derived.Test.YtcmbeolicopicaaGreatZ7
namespace Go.Proofs.YtcmbeolicopicaaGreat
open Go.RowKit Go.Maps Go.ChangeMaps
set_option linter.unusedVariables false
set_option linter.unusedSectionVars false
set_option linter.unusedSimpArgs false
set_option maxRecDepth 100000

/-- Numbers of bytes as a text. -/
def tB (l : List Int) : Nm := l.map fun x => x.toNat.toUInt8
theorem bI_tB {l : List Int} (h : ∀ x ∈ l, 0 ≤ x ∧ x < 256) : bI (tB l) = l := by
  unfold bI tB
  rw [List.map_map]
  conv => rhs; rw [← List.map_id l]
  refine List.map_congr_left fun x hx => ?_
  have := h x hx
  simp [Nat.toUInt8]
  omega
theorem tB_bI (u : Nm) : tB (bI u) = u := by
  unfold bI tB
  rw [List.map_map]
  conv => rhs; rw [← List.map_id u]
  refine List.map_congr_left fun x _ => ?_
  simp [Nat.toUInt8]
end Go.Proofs.YtcmbeolicopicaaGreat
namespace Go.Proofs.YtcmbeolicopicaaGreat
open Go.RowKit Go.Maps Go.ChangeMaps
set_option linter.unusedVariables false
set_option linter.unusedSectionVars false
set_option linter.unusedSimpArgs false
set_option maxRecDepth 100000

theorem conv_text {W : World} {K : Nat → Prop} {A : Option Addr} {c : Nat} (u : Nm) (h : Rd W K A c (u8s (bI u))) : (convert 29 9 (.slice A u.length c)).run Tryz.prog W = .ok (.string ⟨u.toArray⟩) W := by
  cases A with
  | none =>
    have h1 := h.nonone rfl
    simp at h1
    obtain ⟨rfl, rfl⟩ := h1
    rw [run_convert_bytes_string W 29 9 5 none _ _ Tryz.underlying29 Tryz.underlying5 Tryz.underlying9]
    rfl
  | some a =>
    refine run_convert_bytes_back W 29 9 5 a c u Tryz.underlying29 Tryz.underlying5 Tryz.underlying9 fun j hj => ?_
    exact h.cells a rfl j _ (by simp [u8s, bI, hj])
end Go.Proofs.YtcmbeolicopicaaGreat
namespace Go.Proofs.YtcmbeolicopicaaGreat
open Go.RowKit Go.Maps Go.ChangeMaps
set_option linter.unusedVariables false
set_option linter.unusedSimpArgs false
set_option maxRecDepth 100000

/-- A number cut to so many. -/
def pickI (x n : Int) : Int := if n < 1 then 0 else x % n
theorem pickI_range (x n : Int) (h : 1 ≤ n) : 0 ≤ pickI x n ∧ pickI x n < n := by
  unfold pickI
  rw [if_neg (by omega)]
  exact ⟨Int.emod_nonneg _ (by omega), Int.emod_lt_of_pos _ (by omega)⟩
theorem tmod_lo (x n : Int) (h : 1 ≤ n) : -n < x.tmod n ∧ x.tmod n < n := by
  have h1 := Int.tmod_lt_of_pos x (by omega : 0 < n)
  have h2 := Int.tmod_lt_of_pos (-x) (by omega : 0 < n)
  rw [Int.neg_tmod] at h2
  exact ⟨by omega, h1⟩
theorem pick_neg (x n : Int) (h : 1 ≤ n) (h0 : x.tmod n < 0) : x.tmod n + n = pickI x n := by
  have h1 := tmod_lo x n h
  unfold pickI
  rw [if_neg (by omega)]
  have e : x % n = (x.tmod n + n) % n := by
    rw [Int.add_emod_right]
    have := Int.mul_tdiv_add_tmod x n
    conv => lhs; rw [← this]
    rw [Int.add_comm, Int.add_mul_emod_self_left]
  rw [e, Int.emod_eq_of_lt (by omega) (by omega)]
theorem pick_pos (x n : Int) (h : 1 ≤ n) (h0 : 0 ≤ x.tmod n) : x.tmod n = pickI x n := by
  have h1 := tmod_lo x n h
  unfold pickI
  rw [if_neg (by omega)]
  have e : x % n = (x.tmod n) % n := by
    have := Int.mul_tdiv_add_tmod x n
    conv => lhs; rw [← this]
    rw [Int.add_comm, Int.add_mul_emod_self_left]
  rw [e, Int.emod_eq_of_lt (by omega) (by omega)]
theorem pick_any (x n : Int) (w : World) (h1 : 1 ≤ n) (h2 : n ≤ 9223372036854775807) :
    Calls Tryz.prog 25 #[.int .i64 x, .int .i64 n] w fun e w' => e = .returned (.int .i64 (pickI x n)) ∧ w = w' := by
  have hb := tmod_lo x n h1
  go_enter Tryz.func25, Tryz.ntmps25
  go_wp2
  · have h0 : x.tmod n < 0 := by assumption
    go_ret
    exact ⟨congrArg (fun z => Ending.returned (.int .i64 z)) (pick_neg x n h1 h0), rfl⟩
  · have h0 : 0 ≤ x.tmod n := by assumption
    go_ret
    exact ⟨congrArg (fun z => Ending.returned (.int .i64 z)) (pick_pos x n h1 h0), rfl⟩

end Go.Proofs.YtcmbeolicopicaaGreat
namespace Go.Proofs.YtcmbeolicopicaaGreat
open Go.RowKit Go.Maps Go.ChangeMaps
set_option linter.unusedVariables false
set_option linter.unusedSimpArgs false
set_option maxRecDepth 100000

/-- A step. -/
structure DoV where
  o : Int
  s : Nm
  t : Nm
  k : Int
  u : List UInt8
  deriving Inhabited
def doC (d : DoV) (A : Option Addr) (c : Nat) : List Value := [.int .i64 d.o, nmV d.s, nmV d.t, .int .i64 d.k, .slice A d.u.length c]
/-- The step at a place, its bytes; all in blocks of K. -/
def DoAt (w : World) (K : Nat → Prop) (a : Addr) (d : DoV) : Prop :=
  ∃ A c, K a.block ∧ (∀ j, j < 5 → w.cell? (a.add j) = (doC d A c)[j]?) ∧ Rd w K A c (u8s (bI d.u)) ∧ d.u.length ≤ c ∧ c ≤ maxLen ∧ I64 d.o ∧ I64 d.k ∧ d.s.length ≤ maxLen ∧ d.t.length ≤ maxLen
def Dos (w : World) (K : Nat → Prop) (A : Option Addr) (c : Nat) (ds : List DoV) : Prop :=
  (A = none → c = 0) ∧ ds.length ≤ c ∧ c ≤ maxLen ∧ (ds ≠ [] → ∃ a, A = some a ∧ ∀ i d, ds[i]? = some d → DoAt w K (a.add (i * 5)) d)
theorem DoAt.keep {w w' : World} {K K' : Nat → Prop} {a : Addr} {d : DoV} (h : DoAt w K a d) (hk : ∀ b, K b → w'.heap[b]? = w.heap[b]?) (hK : ∀ b, K b → K' b) : DoAt w' K' a d := by
  obtain ⟨A, c, hb, hc, hr, hl, hm, hi⟩ := h
  exact ⟨A, c, hK _ hb, fun j hj => (World.cell?_of_block (by rw [add_blk]; exact hk _ hb)).trans (hc j hj), hr.keep hk hK, hl, hm, hi⟩
theorem Dos.keep {w w' : World} {K K' : Nat → Prop} {A : Option Addr} {c : Nat} {ds : List DoV} (h : Dos w K A c ds) (hk : ∀ b, K b → w'.heap[b]? = w.heap[b]?) (hK : ∀ b, K b → K' b) : Dos w' K' A c ds := by
  obtain ⟨h1, h2, h3, h4⟩ := h
  refine ⟨h1, h2, h3, fun hx => ?_⟩
  obtain ⟨a, e, hc⟩ := h4 hx
  exact ⟨a, e, fun i x hi => (hc i x hi).keep hk hK⟩
section
open Go.ChangeShapes Go.WideShapes Go.Deep
variable {H : Type} {enc : TypeId × Value → H}
theorem cellsDo : Tryz.prog.cellsOf 31 = 5 := by kernel_rfl
theorem cellsInt : Tryz.prog.cellsOf 3 = 1 := by kernel_rfl
theorem cellsS : Tryz.prog.cellsOf 9 = 1 := by kernel_rfl
theorem cellsB : Tryz.prog.cellsOf 29 = 1 := by kernel_rfl
theorem to_u8 : ∀ (l : List Int), (∀ x ∈ l, 0 ≤ x ∧ x ≤ 255) → ∃ u : List UInt8, l = bI u
  | [], _ => ⟨[], rfl⟩
  | x :: l, h => by
    obtain ⟨u, hu⟩ := to_u8 l (fun y hy => h y (by simp [hy]))
    have hx := h x (by simp)
    refine ⟨UInt8.ofNat x.toNat :: u, ?_⟩
    rw [hu]
    simp [bI]
    omega
/-- Bytes that came in. -/
theorem came_bytes {W : World} {fuel : Nat} {v : Value} {x : DataW H × List MemPlace} (h : DataW.trod enc Tryz.prog W 0 (fun _ => true) true fuel 29 [v] = some x) :
    ∃ A c u, v = .slice A (List.length u) c ∧ Rd W (fun b => b < W.heap.size) A c (u8s (bI u)) ∧ u.length ≤ c ∧ c ≤ maxLen := by
  rcases open_ints Tryz.underlying29 Tryz.underlying5 (by kernel_rfl) h with ⟨hcs, _⟩ | ⟨a, l, c, zs, hcs, _, hl, hm, hz, _, hcell, hwz⟩
  · injection hcs with hcs
    subst hcs
    exact ⟨none, 0, [], rfl, Rd.none_ _ _ _ _ (fun _ => rfl), Nat.le_refl _, by decide⟩
  · injection hcs with hcs
    subst hcs
    have hz' : zs.length = c := by simpa using hz
    have hb : ∀ x ∈ zs.take l, 0 ≤ x ∧ x ≤ 255 := by
      intro x hx
      have := bounds_u8 (hwz x (List.mem_of_mem_take hx))
      omega
    obtain ⟨u, hu⟩ := to_u8 _ hb
    have hul : u.length = l := by
      have := congrArg List.length hu
      simp at this
      omega
    refine ⟨some a, c, u, ?_, ⟨(fun e => by cases e), fun hne => ⟨a, rfl, ?_, ?_⟩⟩, by omega, hm⟩
    · rw [hul]
    · rw [← hu] at hne
      have h0 : 0 < (zs.take l).length := by
        cases hq : zs.take l with
        | nil => rw [hq] at hne; exact absurd rfl hne
        | cons _ _ => simp
      have h1 := hcell 0 (by simp at h0; omega)
      have h2 := World.block_lt_of_cell? W _ h1
      rw [add_blk] at h2
      exact h2
    · intro j y hy
      rw [← hu] at hy
      simp only [u8s, List.getElem?_map] at hy
      cases hj : (zs.take l)[j]? with
      | none => rw [hj] at hy; cases hy
      | some z =>
        rw [hj] at hy
        injection hy with hy
        subst hy
        obtain ⟨h1, h2⟩ := List.getElem?_eq_some_iff.1 hj
        have h3 : j < zs.length := by simp at h1; omega
        rw [hcell j h3]
        simp at h2
        simp [List.getD_eq_getElem?_getD, h3, h2]
set_option maxRecDepth 100000 in
/-- A step that came in, by its cells. -/
theorem came_do {W : World} {fuel : Nat} {cs : List Value} {x : DataW H × List MemPlace} (h : DataW.trod enc Tryz.prog W 0 (fun _ => true) true fuel 31 cs = some x) :
    ∃ d A c, cs = doC d A c ∧ Rd W (fun b => b < W.heap.size) A c (u8s (bI d.u)) ∧ d.u.length ≤ c ∧ c ≤ maxLen ∧ I64 d.o ∧ I64 d.k ∧ d.s.length ≤ maxLen ∧ d.t.length ≤ maxLen := by
  obtain ⟨xs, n, rfl, hx, hcl, hxl, hf⟩ := DataW.trod_struct Tryz.underlying31 h
  have hc : cs.length = 5 := hcl.trans (by kernel_rfl)
  match cs, hc with
  | [c0, c1, c2, c3, c4], _ =>
    match xs, hxl with
    | [y0, y1, y2, y3, y4], _ =>
      have h0 := hf 0 _ rfl
      have h1 := hf 1 _ rfl
      have h2 := hf 2 _ rfl
      have h3 := hf 3 _ rfl
      have h4 := hf 4 _ rfl
      simp [cellsInt, cellsS, cellsB] at h0 h1 h2 h3 h4
      obtain ⟨n0, e0, _, w0⟩ := DataW.trod_int Tryz.underlying3 h0
      obtain ⟨n1, e1, _, w1⟩ := DataW.trod_string Tryz.underlying9 h1
      obtain ⟨n2, e2, _, w2⟩ := DataW.trod_string Tryz.underlying9 h2
      obtain ⟨n3, e3, _, w3⟩ := DataW.trod_int Tryz.underlying3 h3
      obtain ⟨A, c, u, e4, hr, hl, hm⟩ := came_bytes h4
      injection e0 with e0
      injection e1 with e1
      injection e2 with e2
      injection e3 with e3
      exact ⟨⟨n0, n1.data.toList, n2.data.toList, n3, u⟩, A, c, by rw [e0, e1, e2, e3, e4]; rfl, hr, hl, hm, bounds_i64 w0, bounds_i64 w3, w1, w2⟩
/-- Steps that came in. -/
theorem came_dos {W : World} {fuel : Nat} {v : Value} {x : DataW H × List MemPlace} (h : DataW.trod enc Tryz.prog W 0 (fun _ => true) true fuel 22 [v] = some x) :
    ∃ A c ds, v = .slice A (List.length ds) c ∧ Dos W (fun b => b < W.heap.size) A c ds := by
  rcases open_slice Tryz.underlying22 h with ⟨hcs, _⟩ | ⟨a, len, cap, m, n, D, Pl, hcs, hb, hl, hm, hmm, hx, hi⟩
  · injection hcs with hcs
    subst hcs
    exact ⟨none, 0, [], rfl, fun _ => rfl, Nat.le_refl _, by decide, fun h => absurd rfl h⟩
  · injection hcs with hcs
    subst hcs
    simp at hmm
    subst hmm
    rw [cellsDo] at hi
    have each : ∀ i, i < len → ∃ d, DoAt W (fun b => b < W.heap.size) (a.add (i * 5)) d := by
      intro i hil
      obtain ⟨cs', hc, ht⟩ := hi i (by omega)
      obtain ⟨_, hcl, hat⟩ := World.cells?_some hc
      obtain ⟨d, A, c, rfl, hr, h1, h2, h5⟩ := came_do ht
      refine ⟨d, A, c, ?_, fun j hj => hat j hj, hr, h1, h2, h5⟩
      have h3 := hat 0 (by omega)
      have h4 := World.block_lt_of_cell? W _ (h3.trans (by rfl : (doC d A c)[0]? = some (.int .i64 d.o)))
      rw [add_blk] at h4
      exact h4
    obtain ⟨f, hf⟩ := choose_lt each
    refine ⟨some a, m, (List.range len).map f, by simp, fun e => (by cases e), by simpa using hl, hm, fun _ => ⟨a, rfl, ?_⟩⟩
    intro i e hie
    simp only [List.getElem?_map] at hie
    by_cases hil : i < len
    · simp [hil] at hie
      subst hie
      exact hf i hil
    · simp [hil] at hie
end
end Go.Proofs.YtcmbeolicopicaaGreat
