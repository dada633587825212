/- text: what the rows' lists give; instructions that come in. -/
import Derived.Test.YtjebjninlejoeaaGreatDoorRows
import Derived.Test.YtjebjninlejoeaaGreatDoorTie
import Derived.Lib.LaidTab
import Derived.Lib.LaidU8
import Derived.LaidMore
import Derived.ProofKit
import Derived.MakeChecks
import Derived.Stop.Joined
import Derived.HandedShaped
import Derived.Lay
import Derived.OpenShut
import Derived.ShutString
import Derived.Deep.Slices
import Derived.ChangeArms
import Derived.ChangeMaps5
import Derived.Test.YtjebjninlejoeaaGreatDoorZC
import Derived.Test.YtjebjninlejoeaaGreatDoorZG
namespace Go.Proofs.YtjebjninlejoeaaGreatDoor
open Go.RowKit Go.ChangeShapes Go.WideShapes Go.ChangeAt Go.Deep
set_option linter.unusedVariables false
set_option linter.unusedSimpArgs false
set_option linter.unusedSectionVars false
set_option maxRecDepth 100000

theorem tabIs_of_reads {P : Program} {W : World} {name : String} {k : IntKind} {zs : List Int} {g : Nat} {t e : TypeId} {n : Nat}
    (hg : P.globalNamed name = some g) (hty : (P.globals[g]?).map (·.type) = some t) (ht : P.underlying t = some (.array n e)) (he : P.underlying e = some (.int k)) (hce : P.cellsOf e = 1) (hct : P.cellsOf t = n)
    (h : Lib.VarReads P W name (Lib.tabData k zs)) : Lib.TabIs P W name k zs := by
  obtain ⟨g', t', cs, fuel, p, hg', ht', hvar, hd⟩ := h
  obtain rfl := Option.some.inj (hg.symm.trans hg')
  obtain rfl := Option.some.inj (hty.symm.trans ht')
  unfold Lib.TabIs
  rw [hvar, ← Lib.cells_of_tab ht he hce hct hd]
theorem var_lt {P : Program} {W : World} {name : String} {g : Nat} {cs : Array Value} (hg : P.globalNamed name = some g) (h : W.var? P name = some cs) : g < W.heap.size := by
  unfold World.var? at h
  rw [hg] at h
  simp only [Option.bind_some] at h
  rcases Nat.lt_or_ge g W.heap.size with h' | h'
  · exact h'
  · rw [Array.getElem?_eq_none h'] at h; cases h
theorem iface_of_reads {P : Program} {W : World} {name s : String} {d : DataW Unit} {g : Nat} {t : TypeId} (hg : P.globalNamed name = some g) (hty : (P.globals[g]?).map (·.type) = some t) (hu : ∃ m, P.underlying t = some (.interface m))
    (h : Lib.VarReads P W name (.iface s d)) : ∃ tp p, W.var? P name = some #[.iface tp p] := by
  obtain ⟨m, hu⟩ := hu
  obtain ⟨g', t', cs, fuel, p, hg', ht', hvar, hd⟩ := h
  obtain rfl := Option.some.inj (hg.symm.trans hg')
  obtain rfl := Option.some.inj (hty.symm.trans ht')
  cases fuel with
  | zero => simp [DataW.trod] at hd
  | succ fuel =>
    unfold DataW.trod at hd
    rw [hu] at hd
    cases hc : cs.toList with
    | nil => rw [hc] at hd; simp at hd
    | cons c l =>
      rw [hc] at hd
      cases l with
      | cons c2 l => cases c <;> simp at hd
      | nil =>
        have hcs : cs = #[c] := by cases cs; simp_all
        cases c with
        | iface u v => exact ⟨u, v, by rw [hvar, hcs]⟩
        | _ => simp at hd
theorem powData : Rows.laid_internal_strconv_uint64pow10 = (Lib.tabData .u64 Lib.pow10Tab : DataW Unit) := by kernel_rfl
theorem spData : Rows.laid_strings_asciiSpace = (Lib.tabData .u8 Lib.asciiSpaceTab : DataW Unit) := by kernel_rfl
/-- Nine of them are listed. -/
theorem tv_of_laid {W : World} (h : laidMetH Tryz.prog Rows.textBackRow.laid W) (hs : W.ShapedOpen Tryz.prog) : Tv W.heap.size W := by
  rw [MakeChecks.laidMetH_plain _ _ _ (by kernel_rfl)] at h
  have m1 : ("internal/strconv.uint64pow10", Rows.laid_internal_strconv_uint64pow10) ∈ Rows.textBackRow.laid := .tail _ (.tail _ (.head _))
  have m2 : ("strings.asciiSpace", Rows.laid_strings_asciiSpace) ∈ Rows.textBackRow.laid := .tail _ (.tail _ (.tail _ (.tail _ (.tail _ (.tail _ (.tail _ (.head _)))))))
  have m3 : ("strconv.ErrRange", Rows.laid_strconv_ErrRange) ∈ Rows.textBackRow.laid := .tail _ (.tail _ (.tail _ (.tail _ (.head _))))
  have m4 : ("strconv.ErrSyntax", Rows.laid_strconv_ErrSyntax) ∈ Rows.textBackRow.laid := .tail _ (.tail _ (.tail _ (.tail _ (.tail _ (.head _)))))
  rw [powData] at m1
  rw [spData] at m2
  have h1 : Lib.TabIs Tryz.prog W "internal/strconv.uint64pow10" .u64 Lib.pow10Tab :=
    tabIs_of_reads gPow (t := 328) (e := 183) (n := 20) (by kernel_rfl) Tryz.underlying328 Tryz.underlying183 (by kernel_rfl) (by kernel_rfl) (Lib.laidMet.reads h m1)
  have h2 : Lib.TabIs Tryz.prog W "strings.asciiSpace" .u8 Lib.asciiSpaceTab :=
    tabIs_of_reads gSp (t := 274) (e := 5) (n := 256) (by kernel_rfl) Tryz.underlying274 Tryz.underlying5 (by kernel_rfl) (by kernel_rfl) (Lib.laidMet.reads h m2)
  obtain ⟨t3, p3, h3⟩ := iface_of_reads gRa (t := 90) (by kernel_rfl) ⟨_, Tryz.underlying90⟩ (Lib.laidMet.reads h m3)
  obtain ⟨t4, p4, h4⟩ := iface_of_reads gSy (t := 90) (by kernel_rfl) ⟨_, Tryz.underlying90⟩ (Lib.laidMet.reads h m4)
  obtain ⟨m, h5⟩ := cell_of_shapedOpen_int (P := Tryz.prog) (g := 0) (zero := #[.int .i64 0]) (t := 3) hs (of_decide_eq_true (by kernel_rfl)) (by kernel_rfl) rfl (by kernel_rfl) (by kernel_rfl) Tryz.underlying3
  have h1' := h1
  have h2' := h2
  unfold Lib.TabIs at h1' h2'
  exact ⟨⟨var_lt gPow h1', var_lt gSp h2', var_lt gSy h4, var_lt gRa h3, World.block_lt_of_cell? W _ h5⟩, h1, h2, ⟨t4, p4, h4⟩, ⟨t3, p3, h3⟩, ⟨m, h5⟩⟩
section
variable {H : Type} {enc : TypeId × Value → H}
theorem came_one {W : World} {fuel : Nat} {cs : List Value} {x : DataW H × List MemPlace} (h : DataW.trod enc Tryz.prog W 0 (fun _ => true) true fuel 40 cs = some x) : ∃ i, cs = ivV i := by
  obtain ⟨xs, n, rfl, hx, hcl, hxl, hf⟩ := DataW.trod_struct Tryz.underlying40 h
  have hc : cs.length = 8 := hcl.trans (by kernel_rfl)
  have k1 : Tryz.prog.cellsOf 38 = 1 := by kernel_rfl
  have k2 : Tryz.prog.cellsOf 4 = 1 := by kernel_rfl
  have k3 : Tryz.prog.cellsOf 3 = 1 := by kernel_rfl
  match cs, hc with
  | [c0, c1, c2, c3, c4, c5, c6, c7], _ =>
    match xs, hxl with
    | [y0, y1, y2, y3, y4, y5, y6, y7], _ =>
      have h0 := hf 0 _ rfl
      have h1 := hf 1 _ rfl
      have h2 := hf 2 _ rfl
      have h3 := hf 3 _ rfl
      have h4 := hf 4 _ rfl
      have h5 := hf 5 _ rfl
      have h6 := hf 6 _ rfl
      have h7 := hf 7 _ rfl
      simp [k1, k2, k3] at h0 h1 h2 h3 h4 h5 h6 h7
      obtain ⟨n0, e0, _, _⟩ := DataW.trod_int Tryz.underlying38 h0
      obtain ⟨n1, e1, _⟩ := DataW.trod_bool Tryz.underlying4 h1
      obtain ⟨n2, e2, _⟩ := DataW.trod_int Tryz.underlying3 h2
      obtain ⟨n3, e3, _⟩ := DataW.trod_int Tryz.underlying3 h3
      obtain ⟨n4, e4, _⟩ := DataW.trod_bool Tryz.underlying4 h4
      obtain ⟨n5, e5, _⟩ := DataW.trod_int Tryz.underlying3 h5
      obtain ⟨n6, e6, _⟩ := DataW.trod_int Tryz.underlying3 h6
      obtain ⟨n7, e7, _⟩ := DataW.trod_int Tryz.underlying3 h7
      injection e0 with e0
      injection e1 with e1
      injection e2 with e2
      injection e3 with e3
      injection e4 with e4
      injection e5 with e5
      injection e6 with e6
      injection e7 with e7
      exact ⟨⟨n0, n1, n2, n3, n4, n5, n6, n7⟩, by rw [e0, e1, e2, e3, e4, e5, e6, e7]; rfl⟩
/-- Instructions that came in. -/
theorem came_ins {W : World} {fuel : Nat} {v : Value} {x : DataW H × List MemPlace} (h : DataW.trod enc Tryz.prog W 0 (fun _ => true) true fuel 23 [v] = some x) :
    ∃ A c es, v = .slice A (List.length es) c ∧ Ivs W (fun b => b < W.heap.size) A c es := by
  rcases open_slice Tryz.underlying23 h with ⟨hcs, _⟩ | ⟨a, len, cap, m, n, D, Pl, hcs, hb, hl, hm, hmm, hx, hi⟩
  · injection hcs with hcs
    subst hcs
    exact ⟨none, 0, [], rfl, Nat.le_refl _, fun q => absurd rfl q⟩
  · injection hcs with hcs
    subst hcs
    simp at hmm
    subst hmm
    rw [show Tryz.prog.cellsOf 40 = 8 by kernel_rfl] at hi
    have each : ∀ i, i < len → ∃ e : IV, ∀ j, j < 8 → W.cell? ((a.add (i * 8)).add j) = (ivV e)[j]? := by
      intro i hil
      obtain ⟨cs', hc, ht⟩ := hi i (by omega)
      obtain ⟨_, hcl, hat⟩ := World.cells?_some hc
      obtain ⟨e, rfl⟩ := came_one ht
      exact ⟨e, fun j hj => hat j hj⟩
    obtain ⟨f, hf⟩ : ∃ f : Nat → IV, ∀ i, i < len → ∀ j, j < 8 → W.cell? ((a.add (i * 8)).add j) = (ivV (f i))[j]? := by
      refine ⟨fun i => if hi : i < len then Classical.choose (each i hi) else default, fun i hi => ?_⟩
      simp only [dif_pos hi]
      exact Classical.choose_spec (each i hi)
    refine ⟨some a, m, (List.range len).map f, by simp, by simpa using hl, fun hne => ?_⟩
    have hl0 : 0 < len := by
      cases len with
      | zero => simp at hne
      | succ n => omega
    have h0 : W.cell? a = some (.int .u8 (f 0).op) := by
      have := hf 0 hl0 0 (by omega)
      rw [Nat.zero_mul] at this
      exact this
    obtain ⟨b, o, sp⟩ := a
    have hsp : sp = none := by
      unfold World.cell? at h0
      split at h0
      · cases sp with
        | none => rfl
        | some q => simp at h0
      · cases h0
    subst hsp
    refine ⟨b, o, rfl, World.block_lt_of_cell? W _ h0, fun j i hj q v hq => ?_⟩
    simp only [List.getElem?_map] at hj
    have hjl : j < len := by
      by_cases hjl : j < len
      · exact hjl
      · simp [hjl] at hj
    simp [hjl] at hj
    subst hj
    have hq8 : q < 8 := (List.getElem?_eq_some_iff.1 hq).1
    have := hf j hjl q hq8
    rw [hq] at this
    have e1 : ∀ (x y : Nat), (⟨x, y, none⟩ : Addr).add q = ⟨x, y + q, none⟩ := by intro x y; unfold Addr.add; split <;> simp_all
    have e2 : (⟨b, o, none⟩ : Addr).add (j * 8) = ⟨b, o + j * 8, none⟩ := by unfold Addr.add; split <;> simp_all
    rw [e2, e1] at this
    exact this
end
/-- A call of a law, over a world that is shaped and in which the listed variables read so. -/
theorem returnsInHanded_both {a : Assume} {C : Checked} {os : Os} {f : FuncId} {fn : Func} {s : ChangeSpec} {H : Type} {enc : TypeId × Value → H} {conds : List PathCond} {apart fresh handsOn again : Bool} {X : World → Array Value → Prop}
    (hX : ∀ (w w' : World) (args : Array Value), w.heap = w'.heap → X w args → X w' args)
    (own : ownKnob C.prog.godebug = none) (started : os.Started) (noInit : C.prog.inits.idxOf? f = none) (hfn : C.prog.funcs[f]? = some fn)
    (witness : ∃ (w : World) (tape : Tape) (i : Input), w.os = os ∧ (w.forCall tape i).Shaped C.prog ∧ i.vars = [] ∧ Input.okWide C.prog (w.forCall tape i) .any w.heap.size f i ∧
      ((s.pre enc C.prog fn conds apart (w.forCall tape i).memory i.args ∧ X (w.forCall tape i).memory i.args) ∧ sizedMet enc C.prog fn (OpenSpec.ofChange s) apart (w.forCall tape i).memory i.args) ∧ a.holds C.prog (lone (Frame.enter C.prog f i.args .normal) [] (w.forCall tape i)))
    (contract : ∀ (W : World) (base : Nat) (args : Array Value) (ds gs : List (DataW H)) (before : List MemPlace),
      (∀ (j : Nat) t v, fn.params[j]? = some t → args[j]? = some v → Value.okWide C.prog W .any base t v) →
      DataW.Whole enc C.prog fn.params.toList s.vars apart W args.toList ds gs before →
      conds.all (PathCond.test C.prog ⟨fn.params.toList, ds, s.plain.varTypes C.prog, gs⟩) = true →
      (DataW.weightsEach C.prog (fn.params.toList ++ s.plain.varTypes C.prog) (ds ++ gs)).all (· ≤ reachBytes) = true → X W args → W.ShapedOpen C.prog →
      a.holds C.prog (lone (Frame.enter C.prog f args .normal) [] W) →
      Calls C.prog f args W fun e W' => ∃ v, e = .returned v ∧ s.post enc C.prog fn apart fresh handsOn again W args v W') :
    ReturnsInHanded a C os f .any (fun w args => (s.pre enc C.prog fn conds apart w args ∧ X w args) ∧ sizedMet enc C.prog fn (OpenSpec.ofChange s) apart w args) (s.post enc C.prog fn apart fresh handsOn again) := by
  refine returnsInHanded_of_calls own started noInit witness ?_
  intro w tape i _ hsh _ hok hpre hholds
  obtain ⟨_, _, _, fn', hfn', _, _, _, _, hval⟩ := hok
  have e : fn' = fn := Option.some.inj (hfn'.symm.trans hfn)
  subst e
  obtain ⟨⟨⟨ds, gs, before, hw, hc⟩, hx⟩, hz⟩ := hpre
  have hw' := DataW.Whole.of_heap (w' := w.forCall tape i) (by rfl) hw
  refine (contract (w.forCall tape i) w.heap.size i.args ds gs before hval hw' hc (hz.weights hw) (hX _ _ _ (by rfl) hx) hsh hholds).mono fun e W' ⟨v, he, hp⟩ => ?_
  subst he
  exact ChangeSpec.post_blind hp
end Go.Proofs.YtjebjninlejoeaaGreatDoor
