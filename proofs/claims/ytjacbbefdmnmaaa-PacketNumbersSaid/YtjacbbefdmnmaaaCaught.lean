/- The program's caught (package packet), over this seat's program. -/
import Derived.Test.YtjacbbefdmnmaaaCheck
import Derived.Recover
import Derived.Defers
import Derived.Laws.Pointers
import Derived.Shelf.Abstract
namespace Go.Proofs.Ytjacbbefdmnmaaa
open Go.RowKit Go.Shelf

theorem Bk.frozen {w : World} {g : Nat} {t : TypeId} {cs : List Value} (h : Bk w g t cs) (i : Nat) : w.frozen? ⟨g, i, none⟩ = false := frozen_of_row w g i _ t h
theorem catch_idle (p : Addr) (w : World) :
    CallsD Try.prog 27 #[.pointer (some p)] .returning w fun e u' w' => e = .returned (.tuple #[]) ∧ u' = .returning ∧ w' = w := by
  refine callsD_of_wpS Try.func27 rfl fun c₀ cs hu => ?_
  apply wpS_seq
  apply wpS_region
  simp [wpOpsS, go_sem, recoverD, hu, Try.ntmps27, Exit.thenS]
  refine wpS_of_wp ?_
  simp [Array.replicate]
  go_wp2
  cases c₀
  simp_all [bodyPostS, results, Try.results27]
theorem catch_err (p : Addr) (x y : Int) (w : World) (hc : w.cell? p = some (.int .i64 y)) (hz : w.frozen? p = false) :
    CallsD Try.prog 27 #[.pointer (some p)] (.panicking [{ v := .iface 32 (.int .i64 x), recovered := false }]) w fun e u' w' => e = .returned (.tuple #[]) ∧ u' = .panicking [{ v := .iface 32 (.int .i64 x), recovered := true }] ∧ w' = w.setCell p (.int .i64 x) := by
  refine callsD_of_wpS Try.func27 rfl fun c₀ cs hu => ?_
  apply wpS_seq
  apply wpS_region
  simp [wpOpsS, go_sem, recoverD, hu, Try.ntmps27, Exit.thenS]
  refine wpS_of_wp ?_
  simp [Array.replicate]
  have hta : ∀ (w : World) (x : Int), (Instr.typeAssert (.iface 32 (.int .i64 x)) 20 32 true).run Try.prog w = .ok (.tuple #[.int .i64 x, .bool true]) w := fun _ _ => by kernel_rfl
  go_wp2
  cases c₀
  simp_all [bodyPostS, results, Try.results27]
theorem caught_ret (f : Nat) (caps : Array Value) (w : World) (R : World → Prop) (hent : ∀ args w, (callFunc f args).run Try.prog w = .ok (.enter f args) w)
    (h : Calls Try.prog f caps (w.alloc (.cells #[.int .i64 0] 32)) fun e w' => e = .returned (.tuple #[]) ∧ R w' ∧ Bk w' w.heap.size 32 [.int .i64 0]) :
    Calls Try.prog 20 #[.func (.func f) #[] caps] w fun e w' => e = .returned (.int .i64 0) ∧ ∃ w1, R w1 ∧ w' = w1.setCell ⟨w.heap.size, 0, none⟩ (.int .i64 0) := by
  have hmf : ∀ (fn : Fn) (first cap : Array Value) (w : World), (Instr.makeFunc fn first cap).run Try.prog w = .ok (.func fn first cap) w := fun _ _ _ _ => rfl
  have H := Lib.hid h
  clear h
  go_enter_defers Try.func20, Try.ntmps20
  go_wp2
  refine H.out.mono ?_
  rintro e w1 ⟨rfl, hR, hk⟩
  have hc : w1.cell? ⟨w.heap.size, 0, none⟩ = some (.int .i64 0) := by rw [hk.cell]; rfl
  have hf : w1.frozen? ⟨w.heap.size, 0, none⟩ = false := hk.frozen 0
  clear hk
  go_wp2
  refine leaves_cons (f := 27) (args := #[.pointer (some ⟨w.heap.size, 0, none⟩)]) (by simp) (by simp [go_sem]) ?_
  refine (catch_idle ⟨w.heap.size, 0, none⟩ _).mono ?_
  rintro e u' w'' ⟨rfl, rfl, rfl⟩
  simp [Leaves, settle, results, Try.results20, go_sem, hc]
  exact ⟨_, hR, rfl⟩
theorem caught_throw (f : Nat) (caps : Array Value) (x : Int) (w : World) (R : World → Prop) (hent : ∀ args w, (callFunc f args).run Try.prog w = .ok (.enter f args) w)
    (h : Calls Try.prog f caps (w.alloc (.cells #[.int .i64 0] 32)) fun e w' => e = thrown x ∧ R w' ∧ Bk w' w.heap.size 32 [.int .i64 0]) :
    Calls Try.prog 20 #[.func (.func f) #[] caps] w fun e w' => e = .returned (.int .i64 x) ∧ ∃ w1, R w1 ∧ w' = w1.setCell ⟨w.heap.size, 0, none⟩ (.int .i64 x) := by
  have hmf : ∀ (fn : Fn) (first cap : Array Value) (w : World), (Instr.makeFunc fn first cap).run Try.prog w = .ok (.func fn first cap) w := fun _ _ _ _ => rfl
  have H := Lib.hid h
  clear h
  go_enter_defers Try.func20, Try.ntmps20
  go_wp2
  refine H.out.mono ?_
  rintro e w1 ⟨rfl, hR, hk⟩
  have hc : w1.cell? ⟨w.heap.size, 0, none⟩ = some (.int .i64 0) := by rw [hk.cell]; rfl
  have hf : w1.frozen? ⟨w.heap.size, 0, none⟩ = false := hk.frozen 0
  clear hk
  unfold thrown
  refine leaves_cons (f := 27) (args := #[.pointer (some ⟨w.heap.size, 0, none⟩)]) (by simp) (by simp [go_sem]) ?_
  refine (catch_err ⟨w.heap.size, 0, none⟩ x 0 _ hc hf).mono ?_
  rintro e u' w'' ⟨rfl, rfl, rfl⟩
  simp [Leaves, settle, results, Try.results20, go_sem, hc]
  exact ⟨_, hR, rfl⟩
end Go.Proofs.Ytjacbbefdmnmaaa
