/- text, the walk: a parser's marks. -/
import Derived.Test.YtjebjninlejoeaaGreatDoorX22
namespace Go.Proofs.YtjebjninlejoeaaGreatDoor
open Go.RowKit Go.Maps Go.ChangeMaps
set_option linter.unusedVariables false
set_option linter.unusedSimpArgs false
set_option linter.unusedSectionVars false
set_option maxRecDepth 100000

theorem intTy : Tryz.prog.underlying 55 = some (.map 9 3) := Tryz.underlying55
theorem zeroInt (W : World) : (zeroValue 3).run Tryz.prog W = .ok (.int .i64 0) W := by rfl
theorem exit_any (R : Nat) (w : World) : Calls Tryz.prog 56 #[.pointer (some ⟨R, 0, none⟩)] w fun x w' => x = .returned (.tuple #[]) ∧ w' = w := by
  go_enter Tryz.func56, Tryz.ntmps56
  go_wp2_with fail
  exact bodyPost_end (v := .tuple #[]) (by simp [results, Tryz.results56, go_sem]) rfl ⟨rfl, rfl⟩
theorem mark_len {w : World} {N : Nat} {K : Nat → Prop} {l : List Nm} {n : Int} (h : RowAt w N K l n) (P : Nat) (hl : l.length ≠ 2) : Calls Tryz.prog 67 #[.pointer (some ⟨P, 0, none⟩), .pointer (some ⟨N, 0, none⟩)] w fun x w' => x = .returned (.bool false) ∧ w' = w := by
  obtain ⟨A, c, hb, hr⟩ := h.row
  have c0 := hb.cell 0
  simp only [List.getElem?_cons_zero] at c0
  have d1 : decide ((l.length : Int) = 2) = false := decide_eq_false (by omega)
  have d2 : ¬ (l.length : Int) = 2 := by omega
  clear hl
  go_enter Tryz.func67, Tryz.ntmps67
  go_wp2_with fail
  go_ret
  exact ⟨rfl, rfl⟩
theorem str_ne {a b : Nm} (h : a ≠ b) : (⟨a.toArray⟩ : ByteArray) ≠ ⟨b.toArray⟩ := fun e => h (by injection e with e; injection e)
theorem mark_no {w : World} {N : Nat} {K : Nat → Prop} {a b : Nm} {n : Int} (h : RowAt w N K [a, b] n) (P : Nat) (hm : markT [a, b] = none) : Calls Tryz.prog 67 #[.pointer (some ⟨P, 0, none⟩), .pointer (some ⟨N, 0, none⟩)] w fun x w' => x = .returned (.bool false) ∧ w' = w := by
  obtain ⟨A, c, hb, hr⟩ := h.row
  have hla := (h.ok a (by simp)).2.1
  have c0 := hb.cell 0
  simp only [List.getElem?_cons_zero, List.length_cons, List.length_nil] at c0
  obtain ⟨g, o, rfl, hg, hc⟩ := hr.2 (by simp)
  have e0 := hc 0 a rfl
  have e1 := hc 1 b rfl
  simp only [Nat.add_zero] at e0
  clear hc hr hb
  by_cases hb58 : b = [58]
  · have hA : labelP a = false := by
      subst hb58
      cases ha : labelP a with
      | false => rfl
      | true => simp [markT, ha] at hm
    have hL := label_any a hla w
    rw [hA] at hL
    subst hb58
    clear hm hA
    go_enter Tryz.func67, Tryz.ntmps67
    go_wp2_with fail
    (with_reducible refine hL.mono ?_)
    rintro _ w1 ⟨rfl, rfl⟩
    go_wp2_with fail
    go_ret
    exact ⟨rfl, rfl⟩
  · have hne := str_ne hb58
    clear hm
    go_enter Tryz.func67, Tryz.ntmps67
    go_wp2_with fail
    go_ret
    exact ⟨rfl, rfl⟩
theorem mark_twice {w : World} {N P M : Nat} {K : Nat → Prop} {a : Nm} {n : Int} {A J : Value} {B1 : Option Addr} {m c1 : Nat} {φ : Nm → Option Value} (h : RowAt w N K [a, [58]] n) (hsm : a.length ≤ 1000000) (ha : labelP a = true) (hP : Bk w P 58 [.slice B1 m c1, A, .map (some M), J]) (hM : Mf w M φ) {v : Value} (hφ : φ a = some v) : Calls Tryz.prog 67 #[.pointer (some ⟨P, 0, none⟩), .pointer (some ⟨N, 0, none⟩)] w fun x w' => x = Thrown 121 n ∧ Below w.heap.size w w' := by
  obtain ⟨A', c, hb, hr⟩ := h.row
  have hla := (h.ok a (by simp)).2.1
  have c0 := hb.cell 0
  have c1' := hb.cell 1
  have p0 := hP.cell 0
  have p2 := hP.cell 2
  simp only [List.getElem?_cons_zero, List.getElem?_cons_succ, List.length_cons, List.length_nil] at c0 c1' p0 p2
  obtain ⟨g, o, rfl, hg, hc⟩ := hr.2 (by simp)
  have e0 := hc 0 a rfl
  have e1 := hc 1 [58] rfl
  simp only [Nat.add_zero] at e0
  clear hc hr hb
  have hL := label_any a hla w
  rw [ha] at hL
  have hK2 := (hM.keep (w' := w.drew) rfl).look2 intTy a hsm zeroInt
  unfold nmV at hK2
  rw [hφ] at hK2
  simp only [Option.getD_some, Option.isSome_some] at hK2
  have HT := Lib.hid (throw_any 121 n w.drew)
  clear hφ ha h hP
  go_enter Tryz.func67, Tryz.ntmps67
  go_wp2_with fail
  (with_reducible refine hL.mono ?_)
  rintro _ w1 ⟨rfl, rfl⟩
  go_wp2_with fail
  go_region
  all_goals (go_wp2_with fail; (with_reducible refine HT.out.mono ?_); rintro _ w2 ⟨rfl, rfl⟩; exact ⟨rfl, rfl, Below.drew (Below.refl _ w1)⟩)
theorem mark_new {w : World} {N P M : Nat} {K : Nat → Prop} {a : Nm} {n : Int} {A J : Value} {B1 : Option Addr} {m c1 : Nat} {φ : Nm → Option Value} (h : RowAt w N K [a, [58]] n) (hsm : a.length ≤ 1000000) (ha : labelP a = true) (hP : Bk w P 58 [.slice B1 m c1, A, .map (some M), J]) (hM : Mf w M φ) (hφ : φ a = none) : Calls Tryz.prog 67 #[.pointer (some ⟨P, 0, none⟩), .pointer (some ⟨N, 0, none⟩)] w fun x w' => x = .returned (.bool true) ∧ MapTo M w w' ∧ Mf w' M (upF φ a (.int .i64 m)) := by
  obtain ⟨A', c, hb, hr⟩ := h.row
  have hla := (h.ok a (by simp)).2.1
  have c0 := hb.cell 0
  have c1' := hb.cell 1
  have p0 := hP.cell 0
  have p2 := hP.cell 2
  simp only [List.getElem?_cons_zero, List.getElem?_cons_succ, List.length_cons, List.length_nil] at c0 c1' p0 p2
  obtain ⟨g, o, rfl, hg, hc⟩ := hr.2 (by simp)
  have e0 := hc 0 a rfl
  have e1 := hc 1 [58] rfl
  simp only [Nat.add_zero] at e0
  clear hc hr hb
  have hL := label_any a hla w
  rw [ha] at hL
  have hK2 := (hM.keep (w' := w.drew) rfl).look2 intTy a hsm zeroInt
  unfold nmV at hK2
  rw [hφ] at hK2
  simp only [Option.getD_none, Option.isSome_none] at hK2
  obtain ⟨W', hU, hto, hmf⟩ := (hM.keep (w' := w.drew.drew) rfl).upd intTy a hsm (.int .i64 m)
  unfold nmV at hU
  clear hφ ha h hP
  go_enter Tryz.func67, Tryz.ntmps67
  go_wp2_with fail
  (with_reducible refine hL.mono ?_)
  rintro _ w1 ⟨rfl, rfl⟩
  go_wp2_with fail
  go_region
  all_goals go_wp2_with fail
  all_goals go_region
  all_goals go_wp2_with fail
  all_goals go_ret
  all_goals exact ⟨rfl, ⟨hto.os, hto.tape, hto.output, hto.size, hto.far⟩, hmf⟩
end Go.Proofs.YtjebjninlejoeaaGreatDoor

