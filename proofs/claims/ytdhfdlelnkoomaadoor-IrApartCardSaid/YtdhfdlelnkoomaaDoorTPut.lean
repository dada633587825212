/- put: texts behind what was written. -/
import Derived.Test.YtdhfdlelnkoomaaDoorTCell
import Derived.LoopTactic
namespace Go.Proofs.YtdhfdlelnkoomaaDoor
open Go.RowKit
set_option linter.unusedVariables false
set_option maxRecDepth 100000

theorem wTy : BTy 54 := ⟨by kernel_rfl, by decide⟩
def strV (ps : List (List UInt8)) : List Value := ps.map fun l => Value.string ⟨l.toArray⟩
theorem Oth.bk {b : Nat} {w w' : World} (h : Oth b w w') {g : Nat} {t : TypeId} {cs : List Value} (hg : Bk w g t cs) (hgb : g ≠ b) (ht : t ≠ 5) : Bk w' g t cs :=
  h g _ hg (by simpa using hgb) (fun c fz e => ht (by injection e))
theorem Oth.trans {b : Nat} {a c d : World} (h : Oth b a c) (k : Oth b c d) : Oth b a d := Lib.OthersKept.trans h k
theorem Oth.refl (b : Nat) (w : World) : Oth b w w := Lib.OthersKept.refl _ _ w
theorem Oth.drew {b : Nat} {a w : World} (h : Oth b a w) : Oth b a w.drew := h
theorem Oth.alloc {b : Nat} {a w : World} (h : Oth b a w) (o : Obj) : Oth b a (w.alloc o) := Lib.OthersKept.alloc h o
theorem Oth.below {b : Nat} {w w' : World} (h : Below w.heap.size w w') : Oth b w w' := fun k o hk _ _ => by
  rw [h.block k (Array.getElem?_eq_some_iff.1 hk).1]; exact hk
theorem Bd.drew {T : TypeId} {B b : Nat} {l : List UInt8} {w : World} (h : Bd T B b l w) : Bd T B b l w.drew := h.elim (fun x => .inl x.drew) (fun x => .inr x.drew)
theorem Bd.alloc {T : TypeId} {B b : Nat} {l : List UInt8} {w : World} (h : Bd T B b l w) (o : Obj) : Bd T B b l (w.alloc o) := Lib.IsBuilderF.alloc h o
set_option maxHeartbeats 1000000 in
theorem put_any (B b g : Nat) (l : List UInt8) (ps : List (List UInt8)) (w : World) (h : Bd 54 B b l w) (hg : Bk w g 9 (strV ps)) (hgb : g ≠ b) (hlen : l.length + ps.flatten.length ≤ 1000000000000) (hBw : B ≤ w.heap.size) (hn : ps.length ≤ 100) :
    Calls Tryd.prog 22 #[.pointer (some ⟨b, 0, none⟩), .slice (some ⟨g, 0, none⟩) ps.length ps.length] w fun e w' => e = .returned (.tuple #[]) ∧ (Bd 54 B b (l ++ ps.flatten) w' ∧ Below B w w' ∧ Oth b w w') := by
  have HH := Lib.hid h
  have HG := Lib.hid hg
  have HL := Lib.hid hlen
  have HB := Lib.hid hBw
  have HGB := Lib.hid hgb
  clear h hg hlen hBw hgb
  go_enter Tryd.func22, Tryd.ntmps22
  go_wp2_with fail
  go_loopw [8] (fun i wr => ∃ k : Nat, k ≤ ps.length ∧ i = .int .i64 k ∧ Hid (Bd 54 B b (l ++ (ps.take k).flatten) wr) ∧ Hid (Below B w wr) ∧ Hid (Oth b w wr)) (fun i _ => ps.length - (intOf i).toNat)
  case atStart => exact ⟨0, Nat.zero_le _, rfl, Lib.hid (by simpa using HH.out), Lib.hid (Below.refl _ _), Lib.hid (Oth.refl _ _)⟩
  case round =>
    obtain ⟨k, hk, rfl, hd, hb, ho⟩ := hrel
    by_cases hlt : k < ps.length
    · have hc : wr.cell? ⟨g, k, none⟩ = some (Value.string ⟨ps[k].toArray⟩) := by
        rw [(ho.out.bk HG.out HGB.out (by decide)).cell k]
        simp [strV, hlt]
      have hl : (l ++ (ps.take k).flatten).length + ps[k].length ≤ 140737488355328 := by
        have e : ps.flatten.length = (ps.take k).flatten.length + (ps.drop k).flatten.length := by rw [← List.length_append, ← List.flatten_append, List.take_append_drop]
        have e2 : (ps.drop k).flatten.length = ps[k].length + (ps.drop (k + 1)).flatten.length := by rw [List.drop_eq_getElem_cons hlt, List.flatten_cons, List.length_append]
        have := HL.out
        simp only [List.length_append]
        omega
      have hs : (l ++ (ps.take k).flatten) ++ ps[k] = l ++ (ps.take (k + 1)).flatten := by
        rw [List.take_succ_eq_append_getElem hlt]; simp only [List.flatten_append, List.flatten_cons, List.flatten_nil, List.append_nil, List.append_assoc]
      have HS := Lib.hid hs
      have HLL := Lib.hid hl
      have HBw := Lib.hid (show B ≤ wr.heap.size from Nat.le_trans HB.out hb.out.size)
      generalize ps[k] = P at *
      clear hs hl
      go_wp2_with (go_at_call 41; refine (write_any wTy B b _ P _ hd.out HLL.out HBw.out).mono ?_; rintro e w1 ⟨rfl, hd1, hb1, ho1⟩; have HD1 := Lib.hid hd1; have HB1 := Lib.hid hb1; have HO1 := Lib.hid ho1; clear hd1 hb1 ho1)
      go_roundw
      case rel => exact ⟨k + 1, by omega, by go_num, Lib.hid (by rw [← HS.out]; exact HD1.out), Lib.hid (hb.out.trans HB1.out), Lib.hid (ho.out.trans HO1.out)⟩
      case measure => simp [intOf]; omega
    · have : k = ps.length := by omega
      subst this
      go_wp2_with fail
      go_end0
      exact ⟨rfl, by simpa using hd.out, hb.out, ho.out⟩
end Go.Proofs.YtdhfdlelnkoomaaDoor
