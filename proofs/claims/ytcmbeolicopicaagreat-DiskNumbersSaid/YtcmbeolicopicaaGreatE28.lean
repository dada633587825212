/- disk: the third loop and the end. -/
import Derived.Test.YtcmbeolicopicaaGreatE25
import Derived.Test.YtcmbeolicopicaaGreatRShelf
import Derived.Deep.DeepCutAuto
namespace Go.Proofs.YtcmbeolicopicaaGreat
open Go.RowKit Go.Maps Go.ChangeMaps
set_option linter.unusedVariables false
set_option linter.unusedSimpArgs false
set_option maxRecDepth 100000

theorem rep_any (s : ByteArray) (hs : s.size = 1) (n : Nat) (hn : n ≤ 100) (w : World) : Calls Tryz.prog 15 #[.string s, .int .i64 (n : Int)] w fun e w' => ∃ l : Nm, l.length ≤ 100 ∧ e = .returned (.string ⟨l.toArray⟩) ∧ Below w.heap.size w w' := by
  refine (Tryz.strings_Repeat s n w (by omega) (by rw [hs]; omega)).mono ?_
  rintro e w' ⟨rfl, hb⟩
  exact ⟨_, by rw [Lib.repeatL_length]; have : s.data.toList.length = 1 := hs; rw [this]; omega, rfl, hb⟩
theorem zeros_rd {w : World} {base g N : Nat} (h : w.ownsRow base 5 1 (.slice (some ⟨g, 0, none⟩) N N) N (madeCells (Value.cells (.int .u8 0)) (N * 1)).toList) (o n : Nat) (hn : o + n ≤ N) : ∃ pk : List Int, pk.length = n ∧ ∀ w' : World, w'.heap[g]? = w.heap[g]? → ∀ c, Rd w' (fun b => b = g) (some ⟨g, o, none⟩) c (u8s pk) := by
  rcases h.2 with ⟨h', _⟩ | ⟨g', cap', cur, h', hb, hg, hnc, hcm, hcs, htake⟩
  · simp at h'
  · simp only [Value.slice.injEq, Option.some.injEq, Addr.mk.injEq, and_true, true_and] at h'
    obtain ⟨rfl, rfl⟩ := h'
    have hc : ∀ j, j < N → w.cell? ⟨g, j, none⟩ = some (.int .u8 0) := by
      intro j hj
      rw [cell_of_row w g j _ _ _ hg]
      have h1 : (cur.toList.take (N * 1))[j]? = some (.int .u8 0) := by
        rw [htake, Array.getElem?_toList]
        simp [madeCells, Value.cells, hj, Nat.mod_one]
      rw [List.getElem?_take, if_pos (by omega)] at h1
      simpa using h1
    refine ⟨List.replicate n 0, List.length_replicate, fun w' hw' c => ⟨fun e => (by cases e), fun _ => ⟨_, rfl, rfl, fun j u hu => ?_⟩⟩⟩
    simp only [u8s, List.map_replicate] at hu
    have hj := (List.getElem?_eq_some_iff.1 hu).1
    rw [List.length_replicate] at hj
    rw [List.getElem?_replicate, if_pos hj] at hu
    injection hu with hu
    subst hu
    rw [show Addr.add ⟨g, o, none⟩ j = ⟨g, o + j, none⟩ by unfold Addr.add; split <;> simp_all]
    exact (World.cell?_of_block hw').trans (hc _ (by omega))
/-- A disk with room for one file as long as may be. -/
def LL (l : List Int) : List FE := putF [] ⟨[97], [] ++ l, 0⟩
theorem app1 {l : List Int} (h : l.length = 8388608) : appE 16777216 [] [97] l = 0 ∧ appL 16777216 [] [97] l = LL l := by
  have e : appE 16777216 [] [97] l = 0 := by
    unfold appE
    have o : okN [97] = true := rfl
    rw [if_neg (by rw [o]; decide), if_neg (by show ¬ 8388608 < 0 + l.length; omega), if_neg (by show ¬ (16777216 : Int) < ((usedF [] : Int) + (l.length : Int)); have : (usedF [] : Int) = 0 := rfl; omega)]
  refine ⟨e, ?_⟩
  unfold appL
  rw [if_pos e]
  rfl
theorem fd_LL (l : List Int) : fd (LL l) [97] = some ⟨[97], [] ++ l, 0⟩ := rfl
theorem app2 {l k : List Int} (h : l.length = 8388608) (hk : k.length = 1) : appE 16777216 (LL l) [97] k = 3 ∧ appL 16777216 (LL l) [97] k = LL l := by
  have e : appE 16777216 (LL l) [97] k = 3 := by
    unfold appE
    have o : okN [97] = true := rfl
    have q : oldF (LL l) [97] = [] ++ l := rfl
    rw [if_neg (by rw [o]; decide), if_pos (by rw [q, List.nil_append, h, hk]; decide)]
  refine ⟨e, ?_⟩
  unfold appL
  rw [if_neg (by rw [e]; decide)]
theorem app3 {l k : List Int} (hk : k.length = 8388609) : appE 16777216 (LL l) [98] k = 3 ∧ appL 16777216 (LL l) [98] k = LL l := by
  have e : appE 16777216 (LL l) [98] k = 3 := by
    unfold appE
    have o : okN [98] = true := rfl
    rw [if_neg (by rw [o]; decide), if_pos (by rw [hk]; omega)]
  refine ⟨e, ?_⟩
  unfold appL
  rw [if_neg (by rw [e]; decide)]
theorem used_LL (l : List Int) (h : l.length = 8388608) : (usedF (LL l) : Int) = 8388608 := by
  unfold LL
  have : usedF (putF [] ⟨[97], [] ++ l, 0⟩) = ([] ++ l : List Int).length + 0 := rfl
  rw [this, List.nil_append, h]
  rfl
end Go.Proofs.YtcmbeolicopicaaGreat

