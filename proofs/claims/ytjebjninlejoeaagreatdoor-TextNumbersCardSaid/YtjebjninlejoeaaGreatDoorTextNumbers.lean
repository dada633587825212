/-
  TextNumbers (its tied card): the law returns true; it takes no argument; no condition of its own (the ten listed library variables are tied to the program's text, one of them pinned).
-/
import Derived.Test.YtjebjninlejoeaaGreatDoorCards
import Derived.Test.YtjebjninlejoeaaGreatDoorTie
import Derived.Test.YtjebjninlejoeaaGreatDoorR24
import Derived.WalkKit
import Derived.ProofKit
import Derived.OpenShut
import Derived.ShutString
import Derived.ChangeOld
import Derived.Below
import Derived.SizedLaws
import Derived.Test.YtjebjninlejoeaaGreatDoorZV
namespace Go.Proofs.YtjebjninlejoeaaGreatDoor.textNumbers
open Go.ChangeShapes Go.WideShapes Go.ChangeAt Go.RowKit Go.Deep Go.ChangeMaps
set_option linter.unusedVariables false

theorem tv_of_laidN {W : World} (h : laidMetH Tryz.prog Rows.textNumbersRow.laid W) (hs : W.ShapedOpen Tryz.prog) : Tv W.heap.size W := by
  rw [MakeChecks.laidMetH_plain _ _ _ (by kernel_rfl)] at h
  have m1 : ("internal/strconv.uint64pow10", Rows.laid_internal_strconv_uint64pow10) ∈ Rows.textNumbersRow.laid := .tail _ (.tail _ (.head _))
  have m2 : ("strings.asciiSpace", Rows.laid_strings_asciiSpace) ∈ Rows.textNumbersRow.laid := .tail _ (.tail _ (.tail _ (.tail _ (.tail _ (.tail _ (.tail _ (.head _)))))))
  have m3 : ("strconv.ErrRange", Rows.laid_strconv_ErrRange) ∈ Rows.textNumbersRow.laid := .tail _ (.tail _ (.tail _ (.tail _ (.head _))))
  have m4 : ("strconv.ErrSyntax", Rows.laid_strconv_ErrSyntax) ∈ Rows.textNumbersRow.laid := .tail _ (.tail _ (.tail _ (.tail _ (.tail _ (.head _)))))
  rw [powData] at m1
  rw [spData] at m2
  have h1 : Lib.TabIs Tryz.prog W "internal/strconv.uint64pow10" .u64 Lib.pow10Tab :=
    tabIs_of_reads gPow (t := 328) (e := 183) (n := 20) (by kernel_rfl) Tryz.underlying328 Tryz.underlying183 (by kernel_rfl) (by kernel_rfl) (Lib.laidMet.reads h m1)
  have h2 : Lib.TabIs Tryz.prog W "strings.asciiSpace" .u8 Lib.asciiSpaceTab :=
    tabIs_of_reads gSp (t := 274) (e := 5) (n := 256) (by kernel_rfl) Tryz.underlying274 Tryz.underlying5 (by kernel_rfl) (by kernel_rfl) (Lib.laidMet.reads h m2)
  obtain ⟨t3, p3, h3⟩ := iface_of_reads gRa (t := 90) (by kernel_rfl) ⟨_, Tryz.underlying90⟩ (Lib.laidMet.reads h m3)
  obtain ⟨t4, p4, h4⟩ := iface_of_reads gSy (t := 90) (by kernel_rfl) ⟨_, Tryz.underlying90⟩ (Lib.laidMet.reads h m4)
  obtain ⟨m, h5⟩ := cell_of_shapedOpen_int (P := Tryz.prog) (g := 0) (zero := #[.int .i64 0]) (t := 3) hs (of_decide_eq_true (by kernel_rfl)) (by kernel_rfl) rfl (by kernel_rfl) (by kernel_rfl) Tryz.underlying3
  have h1' := h1
  have h2' := h2
  unfold Lib.TabIs at h1' h2'
  exact ⟨⟨var_lt gPow h1', var_lt gSp h2', var_lt gSy h4, var_lt gRa h3, World.block_lt_of_cell? W _ h5⟩, h1, h2, ⟨t4, p4, h4⟩, ⟨t3, p3, h3⟩, ⟨m, h5⟩⟩
theorem own : ownKnob Tryz.prog.godebug = none := by kernel_rfl
theorem laidOut : laidOutB Tryz.prog = true := by kernel_rfl
set_option maxRecDepth 100000 in
theorem lifted (os : Os) (started : os.Started) (H : Type) (enc : TypeId × Value → H) :
    ReturnsInHanded {} Tryz.checked os 7 .any (fun w args => (Rows.textNumbersSpec.pre enc Tryz.prog Tryz.f7 [] false w args ∧ laidMetH Tryz.prog Rows.textNumbersRow.laid w) ∧ sizedMet enc Tryz.prog Tryz.f7 (OpenSpec.ofChange Rows.textNumbersSpec) false w args)
      (Rows.textNumbersSpec.post enc Tryz.prog Tryz.f7 false true false false) := by
  refine returnsInHanded_both (C := Tryz.checked) (X := fun w _ => laidMetH Tryz.prog Rows.textNumbersRow.laid w) (fun _ _ _ hh h => h.of_heap hh) own started (by kernel_rfl) Tryz.func7
    (ChangeSpec.witness_shaped (enc := enc) (C := Tryz.checked) (os := os) (X := fun w _ => laidMetH Tryz.prog Rows.textNumbersRow.laid w) false (World.laidAll Tryz.prog os Rows.textNumbersRow.laid) #[] 8 (World.laidAll_os _ _ _) (World.shaped_of_ZipB (by kernel_rfl) (by kernel_rfl)) (by kernel_rfl) (by kernel_rfl) (by kernel_rfl)
      (by rw [MakeChecks.laidMetH_plain _ _ _ (by kernel_rfl)]; exact laidMet_laidAll _ (by kernel_rfl) (by kernel_rfl))) ?_
  intro W base args ds gs before hval0 hW _ hZ hL hsh _
  have hval : ∀ (j : Nat) t v, Tryz.f7.params[j]? = some t → args[j]? = some v → Value.okWide Tryz.prog W .any base t v := hval0
  have hW' := hW
  obtain ⟨p, q, hA0, hV, rfl, hfz, hnd⟩ := hW
  have hA : DataW.TrodAll enc Tryz.prog W 0 (fun _ => true) true Tryz.f7.params.toList args.toList ds p := hA0
  rw [Tryz.params7] at hA hval
  obtain ⟨hnil, rfl, rfl⟩ := trodAll_nil hA
  obtain rfl : args = #[] := by cases args; simp_all
  obtain ⟨rfl, rfl⟩ := trodVars_none hV
  clear hA0 hval0
  refine (textNumbers_any W (tv_of_laidN hL hsh)).mono fun e W' ⟨he, bel⟩ => ?_
  subst he
  exact ⟨_, rfl, _, _, _, [], _, [], hW', trodAll_mk1 (shut_bool Tryz.underlying4 _), trodAll_mk0, rfl, bel.frame _, fun h => by cases h⟩

theorem said : Rows.TextNumbersSaid :=
  OpenClaim.holds_of_wide 7 Tryz.f7 rfl rfl rfl rfl rfl rfl rfl ⟨rfl, rfl, rfl, rfl, rfl⟩ rfl rfl rfl rfl rfl (by kernel_rfl) Tryz.func7 (by kernel_rfl)
    (of_decide_eq_true (by kernel_rfl)) (by unfold Func.isWrapper; first | (rw [if_pos (by decide +kernel)]; kernel_rfl) | (rw [if_neg (by decide +kernel)]; exact ⟨rfl, rfl⟩))
    (fun os started H enc _ => lifted os started H enc)

theorem plain (f : FuncId) (fn : Func) (hf : Tryz.pinned.checked.prog.funcNamed "barbican/barbicanlaw07.TextNumbers" = some f) (hfn : Tryz.pinned.checked.prog.funcs[f]? = some fn) :
    true = Tryz.pinned.checked.prog.looks [] ∧ ∀ (j : Nat) t, fn.params[j]? = some t → Tryz.pinned.checked.prog.wantsStandIn t = false := by
  obtain rfl : f = 7 := Option.some.inj ((show Tryz.prog.funcNamed "barbican/barbicanlaw07.TextNumbers" = some 7 by kernel_rfl).symm.trans hf) |>.symm
  obtain rfl : fn = Tryz.f7 := (Option.some.inj (Tryz.func7.symm.trans hfn)).symm
  refine ⟨by kernel_rfl, fun j t ht => ?_⟩
  rw [Tryz.params7] at ht
  simp at ht

/-- The tied card. -/
theorem proved : Rows.TextNumbersCardSaid :=
  Claim7.holds_tied_plain_at .later [] _ _ _ _ said (fun _ h => by cases h) (by kernel_rfl) (fun _ h => by cases h) textNumbers_row_tie rfl ⟨rfl, rfl⟩ (by kernel_rfl) rfl plain (by kernel_rfl)
#print axioms proved
end Go.Proofs.YtjebjninlejoeaaGreatDoor.textNumbers
