/- disk: is a text among these? -/
import Derived.Test.YtcmbeolicopicaaDSame
namespace Go.Proofs.Ytcmbeolicopicaa
open Go.RowKit Go.Maps Go.ChangeMaps
set_option linter.unusedVariables false
set_option linter.unusedSectionVars false
set_option linter.unusedSimpArgs false
set_option maxRecDepth 100000

theorem has_any (K : Nat → Prop) (A : Option Addr) (c : Nat) (xs : List Nm) (s : Nm) (w : World) (ha : Rd w K A c (xs.map nmV)) (hn : xs.length ≤ 1000000000) :
    Calls Try.prog 9 #[.slice A xs.length c, nmV s] w fun e w' => e = .returned (.bool (decide (s ∈ xs))) ∧ ∃ k, w' = w.drewN k := by
  unfold nmV
  go_enter Try.func9, Try.ntmps9
  go_wp2
  go_loopw [5] (fun i wr => ∃ k q : Nat, k ≤ xs.length ∧ i = .int .i64 k ∧ Hid (∀ x ∈ xs.take k, x ≠ s) ∧ wr = w.drewN q) (fun i _ => xs.length - (intOf i).toNat)
  case atStart => exact ⟨0, 0, Nat.zero_le _, rfl, Lib.hid (by simp), rfl⟩
  case round =>
    obtain ⟨k, q, hk, rfl, HA, rfl⟩ := hrel
    by_cases hlt : k < xs.length
    · obtain ⟨a, x, rfl, _, ca, hx⟩ := ha.nm_at hlt
      unfold nmV at ca
      by_cases he : x = s
      · have hb' : (x == s) = true := by simp [he]
        have HE : Hid (s ∈ xs) := by
          rw [← he]; exact List.mem_of_getElem? hx.out
        clear he
        go_wp2
        go_ret
        exact ⟨by simp [HE.out], _, rfl⟩
      · have hb' : (x == s) = false := by simp [he]
        have HE : Hid (∀ y ∈ xs.take (k + 1), y ≠ s) := by
          intro y hy
          rw [List.take_add_one, hx.out] at hy
          simp at hy
          rcases hy with hy | rfl
          · exact HA.out y hy
          · exact he
        clear he
        go_wp2
        go_roundw
        case rel => exact ⟨k + 1, _, by omega, by go_num, HE, rfl⟩
        case measure => simp [intOf]; omega
    · have HE : Hid (s ∉ xs) := by
        intro hs
        exact HA.out s (by rw [List.take_of_length_le (by omega)]; exact hs) rfl
      go_wp2
      go_ret
      exact ⟨by simp [HE.out], _, rfl⟩
end Go.Proofs.Ytcmbeolicopicaa

