/- LogFits: what its cases share. -/
import Derived.Test.YtcbomcbflmgmhaaAwake
import Derived.Test.YtcbomcbflmgmhaaGood
namespace Go.Proofs.Ytcbomcbflmgmhaa
open Go.RowKit
set_option linter.unusedVariables false

theorem Small.data {es : List En} (h : Small es) : ∀ e ∈ es, e.data.length ≤ 100000000 := fun e he => Nat.le_trans (h.2 e he) (by decide)
theorem NewT_any (A : Option Addr) (c : Nat) (ns : List En) (w : World) (ha : Ents w (fun b => b < w.heap.size) A c ns) (hs : ns.length ≤ 100000) (hd : ∀ e ∈ ns, e.data.length ≤ 100000000) :
    Calls Try.prog 7 #[.slice A ns.length c] w fun x w' => ∃ p, x = .returned (.pointer (some ⟨p, 0, none⟩)) ∧ HasT w.heap.size w'.heap.size w' p ns ∧ Below w.heap.size w w' :=
  (New_any A c ns w ha hs hd).mono fun x w' ⟨p, h1, h2, h3⟩ => ⟨p, h1, h2.T, h3⟩
theorem TermT_any (B T : Nat) (w : World) (p : Nat) (es : List En) (i : Int) (h : HasT B T w p es) :
    Calls Try.prog 8 #[.pointer (some ⟨p, 0, none⟩), .int .i64 i] w fun e w' => e = .returned (.tuple #[.int .i64 (termAt es i), .bool (hasAt es i)]) ∧ Below w.heap.size w w' := Term_any 0 w p es i h.has
theorem FromT_any (B T : Nat) (w : World) (p : Nat) (es : List En) (h : HasT B T w p es) (hes : es.length ≤ 1000) (hd : ∀ e ∈ es, e.data.length ≤ 100000000) :
    Calls Try.prog 10 #[.pointer (some ⟨p, 0, none⟩), .int .i64 1, .int .i64 1000] w (FromP w es) := by
  have := From_any 0 w p es 1 1000 h.has (by omega) hd (by decide)
  rw [fromI_one, List.take_of_length_le (by simpa using hes)] at this
  exact this
theorem Ents.below {w w' : World} {B : Nat} {A : Option Addr} {c : Nat} {es : List En} (h : Ents w (fun b => b < B) A c es) (hb : Below B w w') : Ents w' (fun b => b < B) A c es := h.keep (fun b hb' => hb.block b hb') (fun _ h => h)
theorem fit_small {es ns es' : List En} {i t last chg : Int} {ok : Bool} (h : FitP es ns i t last chg ok es') : es'.length ≤ es.length + ns.length ∧ ∀ e ∈ es', e ∈ es ∨ e ∈ ns := by
  rcases h with ⟨h, rfl, rfl, rfl, rfl⟩ | ⟨h1, h2, rfl, rfl, (⟨hall, rfl, rfl⟩ | ⟨k, hk, hj, hn, hle, rfl, rfl⟩)⟩
  · exact ⟨by omega, fun e he => .inl he⟩
  · exact ⟨by omega, fun e he => .inl he⟩
  · refine ⟨by simp; omega, fun e he => ?_⟩
    rcases List.mem_append.1 he with h | h
    · exact .inl (List.mem_of_mem_take h)
    · exact .inr (List.mem_of_mem_drop h)
theorem below_drewN {n : Nat} {w w' : World} (h : Below n w w') (q : Nat) : Below n w (w'.drewN q) := ⟨h.os, h.tape, h.output, h.size, h.block⟩

end Go.Proofs.Ytcbomcbflmgmhaa
