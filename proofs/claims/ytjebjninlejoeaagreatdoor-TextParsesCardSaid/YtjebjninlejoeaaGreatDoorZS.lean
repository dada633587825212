/- text: what the rows' lists give; instructions that come in. text: TextShows, TextParses: the laws' own text walked. text: instructions that came in, with what their slice is where there are none. -/
import Derived.Test.YtjebjninlejoeaaGreatDoorRows
import Derived.Test.YtjebjninlejoeaaGreatDoorTie
import Derived.Lib.LaidTab
import Derived.Lib.LaidU8
import Derived.LaidMore
import Derived.ProofKit
import Derived.MakeChecks
import Derived.Stop.Joined
import Derived.HandedShaped
import Derived.Lay
import Derived.OpenShut
import Derived.ShutString
import Derived.Deep.Slices
import Derived.ChangeArms
import Derived.ChangeMaps5
import Derived.Test.YtjebjninlejoeaaGreatDoorZC
import Derived.Test.YtjebjninlejoeaaGreatDoorZG
import Derived.Test.YtjebjninlejoeaaGreatDoorZP
import Derived.Test.YtjebjninlejoeaaGreatDoorZR
import Derived.Test.YtjebjninlejoeaaGreatDoorZK
namespace Go.Proofs.YtjebjninlejoeaaGreatDoor
open Go.RowKit Go.ChangeShapes Go.WideShapes Go.ChangeAt Go.Deep
set_option linter.unusedVariables false
set_option linter.unusedSimpArgs false
set_option linter.unusedSectionVars false
set_option maxRecDepth 100000

theorem tabIs_of_reads {P : Program} {W : World} {name : String} {k : IntKind} {zs : List Int} {g : Nat} {t e : TypeId} {n : Nat}
    (hg : P.globalNamed name = some g) (hty : (P.globals[g]?).map (·.type) = some t) (ht : P.underlying t = some (.array n e)) (he : P.underlying e = some (.int k)) (hce : P.cellsOf e = 1) (hct : P.cellsOf t = n)
    (h : Lib.VarReads P W name (Lib.tabData k zs)) : Lib.TabIs P W name k zs := by
  obtain ⟨g', t', cs, fuel, p, hg', ht', hvar, hd⟩ := h
  obtain rfl := Option.some.inj (hg.symm.trans hg')
  obtain rfl := Option.some.inj (hty.symm.trans ht')
  unfold Lib.TabIs
  rw [hvar, ← Lib.cells_of_tab ht he hce hct hd]
theorem var_lt {P : Program} {W : World} {name : String} {g : Nat} {cs : Array Value} (hg : P.globalNamed name = some g) (h : W.var? P name = some cs) : g < W.heap.size := by
  unfold World.var? at h
  rw [hg] at h
  simp only [Option.bind_some] at h
  rcases Nat.lt_or_ge g W.heap.size with h' | h'
  · exact h'
  · rw [Array.getElem?_eq_none h'] at h; cases h
theorem iface_of_reads {P : Program} {W : World} {name s : String} {d : DataW Unit} {g : Nat} {t : TypeId} (hg : P.globalNamed name = some g) (hty : (P.globals[g]?).map (·.type) = some t) (hu : ∃ m, P.underlying t = some (.interface m))
    (h : Lib.VarReads P W name (.iface s d)) : ∃ tp p, W.var? P name = some #[.iface tp p] := by
  obtain ⟨m, hu⟩ := hu
  obtain ⟨g', t', cs, fuel, p, hg', ht', hvar, hd⟩ := h
  obtain rfl := Option.some.inj (hg.symm.trans hg')
  obtain rfl := Option.some.inj (hty.symm.trans ht')
  cases fuel with
  | zero => simp [DataW.trod] at hd
  | succ fuel =>
    unfold DataW.trod at hd
    rw [hu] at hd
    cases hc : cs.toList with
    | nil => rw [hc] at hd; simp at hd
    | cons c l =>
      rw [hc] at hd
      cases l with
      | cons c2 l => cases c <;> simp at hd
      | nil =>
        have hcs : cs = #[c] := by cases cs; simp_all
        cases c with
        | iface u v => exact ⟨u, v, by rw [hvar, hcs]⟩
        | _ => simp at hd
theorem powData : Rows.laid_internal_strconv_uint64pow10 = (Lib.tabData .u64 Lib.pow10Tab : DataW Unit) := by kernel_rfl
theorem spData : Rows.laid_strings_asciiSpace = (Lib.tabData .u8 Lib.asciiSpaceTab : DataW Unit) := by kernel_rfl
/-- Nine of them are listed. -/
theorem tv_of_laid {W : World} (h : laidMetH Tryz.prog Rows.textBackRow.laid W) (hs : W.ShapedOpen Tryz.prog) : Tv W.heap.size W := by
  rw [MakeChecks.laidMetH_plain _ _ _ (by kernel_rfl)] at h
  have m1 : ("internal/strconv.uint64pow10", Rows.laid_internal_strconv_uint64pow10) ∈ Rows.textBackRow.laid := .tail _ (.tail _ (.head _))
  have m2 : ("strings.asciiSpace", Rows.laid_strings_asciiSpace) ∈ Rows.textBackRow.laid := .tail _ (.tail _ (.tail _ (.tail _ (.tail _ (.tail _ (.tail _ (.head _)))))))
  have m3 : ("strconv.ErrRange", Rows.laid_strconv_ErrRange) ∈ Rows.textBackRow.laid := .tail _ (.tail _ (.tail _ (.tail _ (.head _))))
  have m4 : ("strconv.ErrSyntax", Rows.laid_strconv_ErrSyntax) ∈ Rows.textBackRow.laid := .tail _ (.tail _ (.tail _ (.tail _ (.tail _ (.head _)))))
  rw [powData] at m1
  rw [spData] at m2
  have h1 : Lib.TabIs Tryz.prog W "internal/strconv.uint64pow10" .u64 Lib.pow10Tab :=
    tabIs_of_reads gPow (t := 328) (e := 183) (n := 20) (by kernel_rfl) Tryz.underlying328 Tryz.underlying183 (by kernel_rfl) (by kernel_rfl) (Lib.laidMet.reads h m1)
  have h2 : Lib.TabIs Tryz.prog W "strings.asciiSpace" .u8 Lib.asciiSpaceTab :=
    tabIs_of_reads gSp (t := 274) (e := 5) (n := 256) (by kernel_rfl) Tryz.underlying274 Tryz.underlying5 (by kernel_rfl) (by kernel_rfl) (Lib.laidMet.reads h m2)
  obtain ⟨t3, p3, h3⟩ := iface_of_reads gRa (t := 90) (by kernel_rfl) ⟨_, Tryz.underlying90⟩ (Lib.laidMet.reads h m3)
  obtain ⟨t4, p4, h4⟩ := iface_of_reads gSy (t := 90) (by kernel_rfl) ⟨_, Tryz.underlying90⟩ (Lib.laidMet.reads h m4)
  obtain ⟨m, h5⟩ := cell_of_shapedOpen_int (P := Tryz.prog) (g := 0) (zero := #[.int .i64 0]) (t := 3) hs (of_decide_eq_true (by kernel_rfl)) (by kernel_rfl) rfl (by kernel_rfl) (by kernel_rfl) Tryz.underlying3
  have h1' := h1
  have h2' := h2
  unfold Lib.TabIs at h1' h2'
  exact ⟨⟨var_lt gPow h1', var_lt gSp h2', var_lt gSy h4, var_lt gRa h3, World.block_lt_of_cell? W _ h5⟩, h1, h2, ⟨t4, p4, h4⟩, ⟨t3, p3, h3⟩, ⟨m, h5⟩⟩
section
variable {H : Type} {enc : TypeId × Value → H}
theorem came_one {W : World} {fuel : Nat} {cs : List Value} {x : DataW H × List MemPlace} (h : DataW.trod enc Tryz.prog W 0 (fun _ => true) true fuel 40 cs = some x) : ∃ i, cs = ivV i := by
  obtain ⟨xs, n, rfl, hx, hcl, hxl, hf⟩ := DataW.trod_struct Tryz.underlying40 h
  have hc : cs.length = 8 := hcl.trans (by kernel_rfl)
  have k1 : Tryz.prog.cellsOf 38 = 1 := by kernel_rfl
  have k2 : Tryz.prog.cellsOf 4 = 1 := by kernel_rfl
  have k3 : Tryz.prog.cellsOf 3 = 1 := by kernel_rfl
  match cs, hc with
  | [c0, c1, c2, c3, c4, c5, c6, c7], _ =>
    match xs, hxl with
    | [y0, y1, y2, y3, y4, y5, y6, y7], _ =>
      have h0 := hf 0 _ rfl
      have h1 := hf 1 _ rfl
      have h2 := hf 2 _ rfl
      have h3 := hf 3 _ rfl
      have h4 := hf 4 _ rfl
      have h5 := hf 5 _ rfl
      have h6 := hf 6 _ rfl
      have h7 := hf 7 _ rfl
      simp [k1, k2, k3] at h0 h1 h2 h3 h4 h5 h6 h7
      obtain ⟨n0, e0, _, _⟩ := DataW.trod_int Tryz.underlying38 h0
      obtain ⟨n1, e1, _⟩ := DataW.trod_bool Tryz.underlying4 h1
      obtain ⟨n2, e2, _⟩ := DataW.trod_int Tryz.underlying3 h2
      obtain ⟨n3, e3, _⟩ := DataW.trod_int Tryz.underlying3 h3
      obtain ⟨n4, e4, _⟩ := DataW.trod_bool Tryz.underlying4 h4
      obtain ⟨n5, e5, _⟩ := DataW.trod_int Tryz.underlying3 h5
      obtain ⟨n6, e6, _⟩ := DataW.trod_int Tryz.underlying3 h6
      obtain ⟨n7, e7, _⟩ := DataW.trod_int Tryz.underlying3 h7
      injection e0 with e0
      injection e1 with e1
      injection e2 with e2
      injection e3 with e3
      injection e4 with e4
      injection e5 with e5
      injection e6 with e6
      injection e7 with e7
      exact ⟨⟨n0, n1, n2, n3, n4, n5, n6, n7⟩, by rw [e0, e1, e2, e3, e4, e5, e6, e7]; rfl⟩
/-- Instructions that came in. -/
theorem came_ins {W : World} {fuel : Nat} {v : Value} {x : DataW H × List MemPlace} (h : DataW.trod enc Tryz.prog W 0 (fun _ => true) true fuel 23 [v] = some x) :
    ∃ A c es, v = .slice A (List.length es) c ∧ Ivs W (fun b => b < W.heap.size) A c es := by
  rcases open_slice Tryz.underlying23 h with ⟨hcs, _⟩ | ⟨a, len, cap, m, n, D, Pl, hcs, hb, hl, hm, hmm, hx, hi⟩
  · injection hcs with hcs
    subst hcs
    exact ⟨none, 0, [], rfl, Nat.le_refl _, fun q => absurd rfl q⟩
  · injection hcs with hcs
    subst hcs
    simp at hmm
    subst hmm
    rw [show Tryz.prog.cellsOf 40 = 8 by kernel_rfl] at hi
    have each : ∀ i, i < len → ∃ e : IV, ∀ j, j < 8 → W.cell? ((a.add (i * 8)).add j) = (ivV e)[j]? := by
      intro i hil
      obtain ⟨cs', hc, ht⟩ := hi i (by omega)
      obtain ⟨_, hcl, hat⟩ := World.cells?_some hc
      obtain ⟨e, rfl⟩ := came_one ht
      exact ⟨e, fun j hj => hat j hj⟩
    obtain ⟨f, hf⟩ : ∃ f : Nat → IV, ∀ i, i < len → ∀ j, j < 8 → W.cell? ((a.add (i * 8)).add j) = (ivV (f i))[j]? := by
      refine ⟨fun i => if hi : i < len then Classical.choose (each i hi) else default, fun i hi => ?_⟩
      simp only [dif_pos hi]
      exact Classical.choose_spec (each i hi)
    refine ⟨some a, m, (List.range len).map f, by simp, by simpa using hl, fun hne => ?_⟩
    have hl0 : 0 < len := by
      cases len with
      | zero => simp at hne
      | succ n => omega
    have h0 : W.cell? a = some (.int .u8 (f 0).op) := by
      have := hf 0 hl0 0 (by omega)
      rw [Nat.zero_mul] at this
      exact this
    obtain ⟨b, o, sp⟩ := a
    have hsp : sp = none := by
      unfold World.cell? at h0
      split at h0
      · cases sp with
        | none => rfl
        | some q => simp at h0
      · cases h0
    subst hsp
    refine ⟨b, o, rfl, World.block_lt_of_cell? W _ h0, fun j i hj q v hq => ?_⟩
    simp only [List.getElem?_map] at hj
    have hjl : j < len := by
      by_cases hjl : j < len
      · exact hjl
      · simp [hjl] at hj
    simp [hjl] at hj
    subst hj
    have hq8 : q < 8 := (List.getElem?_eq_some_iff.1 hq).1
    have := hf j hjl q hq8
    rw [hq] at this
    have e1 : ∀ (x y : Nat), (⟨x, y, none⟩ : Addr).add q = ⟨x, y + q, none⟩ := by intro x y; unfold Addr.add; split <;> simp_all
    have e2 : (⟨b, o, none⟩ : Addr).add (j * 8) = ⟨b, o + j * 8, none⟩ := by unfold Addr.add; split <;> simp_all
    rw [e2, e1] at this
    exact this
end
/-- A call of a law, over a world that is shaped and in which the listed variables read so. -/
theorem returnsInHanded_both {a : Assume} {C : Checked} {os : Os} {f : FuncId} {fn : Func} {s : ChangeSpec} {H : Type} {enc : TypeId × Value → H} {conds : List PathCond} {apart fresh handsOn again : Bool} {X : World → Array Value → Prop}
    (hX : ∀ (w w' : World) (args : Array Value), w.heap = w'.heap → X w args → X w' args)
    (own : ownKnob C.prog.godebug = none) (started : os.Started) (noInit : C.prog.inits.idxOf? f = none) (hfn : C.prog.funcs[f]? = some fn)
    (witness : ∃ (w : World) (tape : Tape) (i : Input), w.os = os ∧ (w.forCall tape i).Shaped C.prog ∧ i.vars = [] ∧ Input.okWide C.prog (w.forCall tape i) .any w.heap.size f i ∧
      ((s.pre enc C.prog fn conds apart (w.forCall tape i).memory i.args ∧ X (w.forCall tape i).memory i.args) ∧ sizedMet enc C.prog fn (OpenSpec.ofChange s) apart (w.forCall tape i).memory i.args) ∧ a.holds C.prog (lone (Frame.enter C.prog f i.args .normal) [] (w.forCall tape i)))
    (contract : ∀ (W : World) (base : Nat) (args : Array Value) (ds gs : List (DataW H)) (before : List MemPlace),
      (∀ (j : Nat) t v, fn.params[j]? = some t → args[j]? = some v → Value.okWide C.prog W .any base t v) →
      DataW.Whole enc C.prog fn.params.toList s.vars apart W args.toList ds gs before →
      conds.all (PathCond.test C.prog ⟨fn.params.toList, ds, s.plain.varTypes C.prog, gs⟩) = true →
      (DataW.weightsEach C.prog (fn.params.toList ++ s.plain.varTypes C.prog) (ds ++ gs)).all (· ≤ reachBytes) = true → X W args → W.ShapedOpen C.prog →
      a.holds C.prog (lone (Frame.enter C.prog f args .normal) [] W) →
      Calls C.prog f args W fun e W' => ∃ v, e = .returned v ∧ s.post enc C.prog fn apart fresh handsOn again W args v W') :
    ReturnsInHanded a C os f .any (fun w args => (s.pre enc C.prog fn conds apart w args ∧ X w args) ∧ sizedMet enc C.prog fn (OpenSpec.ofChange s) apart w args) (s.post enc C.prog fn apart fresh handsOn again) := by
  refine returnsInHanded_of_calls own started noInit witness ?_
  intro w tape i _ hsh _ hok hpre hholds
  obtain ⟨_, _, _, fn', hfn', _, _, _, _, hval⟩ := hok
  have e : fn' = fn := Option.some.inj (hfn'.symm.trans hfn)
  subst e
  obtain ⟨⟨⟨ds, gs, before, hw, hc⟩, hx⟩, hz⟩ := hpre
  have hw' := DataW.Whole.of_heap (w' := w.forCall tape i) (by rfl) hw
  refine (contract (w.forCall tape i) w.heap.size i.args ds gs before hval hw' hc (hz.weights hw) (hX _ _ _ (by rfl) hx) hsh hholds).mono fun e W' ⟨v, he, hp⟩ => ?_
  subst he
  exact ChangeSpec.post_blind hp
end Go.Proofs.YtjebjninlejoeaaGreatDoor
namespace Go.Proofs.YtjebjninlejoeaaGreatDoor
open Go.RowKit Go.Maps Go.ChangeMaps
set_option linter.unusedVariables false
set_option linter.unusedSimpArgs false
set_option linter.unusedSectionVars false
set_option maxRecDepth 100000

theorem eql_ft (a b c d : Int) (w : World) : (binOp .eql 26 (.agg #[.int .i64 a, .int .i64 b]) (.agg #[.int .i64 c, .int .i64 d])).run Tryz.prog w = .ok (.bool ((a == c) && (b == d))) w := by
  rw [run_eql_struct]
  have h1 : Tryz.prog.underlying 26 = some (.struct (Tryz.prog.fieldsOf 26)) := by kernel_rfl
  have h2 : Tryz.prog.stoodInHeld 26 = false := by kernel_rfl
  rw [run_equalIn_struct w 9999 26 _ _ h1 h2]
  simp [go_sem, Program.fieldsOf, Op.eqFields]
  repeat' split
  all_goals simp_all
theorem Ivs.of_bk {w : World} {g n : Nat} {l m : List IV} (h : Bk w g 40 (outC (l ++ m))) (hn : l.length ≤ n) : Ivs w (fun b => b = g) (some ⟨g, 0, none⟩) n l := by
  refine ⟨hn, fun _ => ⟨g, 0, rfl, rfl, fun j i hj q v hv => ?_⟩⟩
  have hq : q < 8 := (List.getElem?_eq_some_iff.1 hv).1
  have h1 : (l ++ m)[j]? = some i := by rw [List.getElem?_append_left (List.getElem?_eq_some_iff.1 hj).1]; exact hj
  have := out_at h h1 hq
  rw [hv] at this
  rw [← this]
  congr 2
  omega
set_option maxHeartbeats 2000000 in
theorem textShows_any (A : Option Addr) (c : Nat) (l : List IV) (w : World) (hI : Ivs w (fun b => b < w.heap.size) A c l) (hcz : A = none → c = 0) (hv : Tv w.heap.size w) : Calls Tryz.prog 4 #[.slice A l.length c] w fun e w' => e = .returned (.bool true) ∧ Below w.heap.size w w' := by
  by_cases h1 : 5000 < l.length
  · have d1 : decide ((5000 : Int) < (l.length : Int)) = true := decide_eq_true (by omega)
    go_enter Tryz.func4, Tryz.ntmps4
    go_wp2_with fail
    (with_reducible refine (awake_any w hv (Nat.le_refl _)).mono ?_)
    rintro _ w1 ⟨rfl, b1⟩
    go_wp2_with fail
    go_ret
    exact ⟨rfl, b1⟩
  · have d1 : decide ((5000 : Int) < (l.length : Int)) = false := decide_eq_false (by omega)
    have hl : l.length ≤ 5000 := by omega
    have HI := Lib.hid hI
    have hln := lentIns_any A c l w hI hcz (by omega)
    clear hI hcz
    go_enter Tryz.func4, Tryz.ntmps4
    go_wp2_with fail
    (with_reducible refine hln.mono ?_)
    rintro _ w1 ⟨rfl, hbk, b1⟩
    have hv1 := hv.below b1 (Nat.le_refl _)
    have hsh := show_all (some ⟨w.heap.size, 0, none⟩) (l.length + 12) l w1 (Ivs.of_bk hbk (by omega)) hv1 b1.size
    have HBK := Lib.hid hbk
    have B1 := Lib.hid b1
    clear hbk b1 hln
    go_wp2_with fail
    (with_reducible refine hsh.mono ?_)
    rintro _ w2 ⟨rfl, b2⟩
    have B2 := Lib.hid (B1.out.trans (b2.mono B1.out.size))
    have HBK2 := Lib.hid (HBK.out.below b2 HBK.out.lt)
    have hrs := rshow_any A c l (by omega) w2 (HI.out.below B2.out) (hv.below B2.out (Nat.le_refl _)) B2.out.size
    clear hsh b2 hv1 HBK B1
    go_wp2_with fail
    (with_reducible refine hrs.mono ?_)
    rintro _ w3 ⟨rfl, b3⟩
    have B3 := Lib.hid (B2.out.trans (b3.mono B2.out.size))
    have HBK3 := Lib.hid (HBK2.out.below b3 HBK2.out.lt)
    have hkp := keptIns_true w.heap.size A c l w3 HBK3.out (HI.out.below B3.out) (by omega)
    generalize showR l = sr at *
    obtain ⟨s1, s2⟩ := sr
    clear hrs b3 HBK2 B2
    simp only
    go_wp2_with fail
    (with_reducible refine hkp.mono ?_)
    rintro _ w4 ⟨rfl, b4⟩
    have B4 := Lib.hid (B3.out.trans (b4.mono B3.out.size))
    have haw := awake_any w4 (hv.below B4.out (Nat.le_refl _)) B4.out.size
    clear hkp b4
    go_wp2_with fail
    (with_reducible refine haw.mono ?_)
    rintro _ w5 ⟨rfl, b5⟩
    have B5 := Lib.hid (B4.out.trans (b5.mono B4.out.size))
    go_wp2_with fail
    go_ret
    exact ⟨rfl, B5.out⟩
theorem rparse_long (s : Nm) (hs : 262144 < s.length) (hs2 : s.length ≤ 1000000000) (w : World) : Calls Tryz.prog 29 #[.string ⟨s.toArray⟩] w fun x w' => ParR w (parseP s) x w' := by
  have HE := Lib.hid (show parseP s = .error (3, 0) by unfold parseP; rw [if_pos hs])
  have hx : (((⟨s.toArray⟩ : ByteArray).size : Nat) : Int) = (s.length : Int) := by show ((s.toArray.size : Nat) : Int) = _; simp
  have d1 : decide ((262144 : Int) < (s.length : Int)) = true := decide_eq_true (by omega)
  have q1 : (262144 : Int) < (s.length : Int) := by omega
  have hF := Bk.new w 26 [.int .i64 0, .int .i64 0]
  have hk2 := flt_bk hF 3 0
  have HN := Lib.hid (ParR.err (w := w) (m := 0) HE.out ((((Below.refl _ w).alloc (Nat.le_refl _) (.cells #[.int .i64 0, .int .i64 0] 26)).setCell (p := ⟨w.heap.size, 0, none⟩) (Nat.le_refl _) (.int .i64 3)).setCell (p := ⟨w.heap.size, 1, none⟩) (Nat.le_refl _) (.int .i64 0)))
  have f0 := hF.cell 0
  have f1 := hF.cell 1
  have z0 := hF.frozen 0
  have z1 := hF.frozen 1
  simp only [List.getElem?_cons_zero, List.getElem?_cons_succ] at f0 f1
  have HK := Lib.hid hk2
  clear hF hk2
  go_enter Tryz.func29, Tryz.ntmps29
  go_wp2_with fail
  first
    | exact bodyPost_ret (leave_rparse w.heap.size _ 3 0 _ _ ⟨HK.out.cell 0, HK.out.cell 1⟩ rfl rfl) rfl HN.out
    | (have hF2 := Bk.new w 26 [.int .i64 3, .int .i64 0]
       exact bodyPost_ret (leave_rparse w.heap.size _ 3 0 _ _ ⟨hF2.cell 0, hF2.cell 1⟩ rfl rfl) rfl (ParR.err (m := 0) HE.out ((Below.refl _ w).alloc (Nat.le_refl _) _)))
theorem rparse_any (s : Nm) (hs : s.length ≤ 1000000000) (w : World) : Calls Tryz.prog 29 #[.string ⟨s.toArray⟩] w fun x w' => ParR w (parseP s) x w' := by
  by_cases h : s.length ≤ 262144
  · exact rparse_short s h w
  · exact rparse_long s (by omega) hs w
/-- The instructions and the fault of an answer. -/
def rlP (r : Except (Int × Nat) (List IV)) : List IV := match r with | .ok l => l | .error _ => []
def reP (r : Except (Int × Nat) (List IV)) : Int × Int := match r with | .ok _ => (0, 0) | .error e => (e.1, (e.2 : Int))
theorem rl_len (s : Nm) : (rlP (parseP s)).length ≤ 4096 := by
  cases h : parseP s with
  | ok l => exact (parse_right h).2
  | error e => simp [rlP]
theorem ParR.all {w : World} {r : Except (Int × Nat) (List IV)} {x : Ending} {w' : World} (h : ParR w r x w') : ∃ A c, x = .returned (.tuple #[.slice A (rlP r).length c, .agg #[.int .i64 (reP r).1, .int .i64 (reP r).2]]) ∧ Below w.heap.size w w' ∧ w'.ownsRow w.heap.size 40 8 (.slice A (rlP r).length c) (rlP r).length (outC (rlP r)) := by
  obtain ⟨hb, h⟩ := h
  cases r with
  | error e => exact ⟨none, 0, h, hb, World.ownsRow_nil _ _ _ _⟩
  | ok l =>
    obtain ⟨vo, rfl, ho⟩ := h
    obtain ⟨A, c, rfl⟩ := own_slice ho
    exact ⟨A, c, rfl, hb, ho⟩
theorem parses_any (s : Nm) (hs : s.length ≤ 1000000000) {B : Nat} (w : World) (hv : Tv B w) (hB : B ≤ w.heap.size) : Calls Tryz.prog 10 #[.string ⟨s.toArray⟩] w fun e w' => e = .returned (.bool true) ∧ Below w.heap.size w w' := by
  have hp := parse_any s hs w hv hB
  have hq := fun W => rparse_any s hs W
  have hL := rl_len s
  have heq := eql_ft
  generalize parseP s = r at *
  go_enter Tryz.func10, Tryz.ntmps10
  go_wp2_with fail
  (with_reducible refine hp.mono ?_)
  intro x w1 h1
  obtain ⟨A1, c1, rfl, b1, o1⟩ := h1.all
  have B1 := Lib.hid (b1.alloc b1.size (.cells #[.int .i64 (reP r).1, .int .i64 (reP r).2] 26))
  have HK1 := Lib.hid (Bk.new w1 26 [.int .i64 (reP r).1, .int .i64 (reP r).2])
  have O1 := Lib.hid (own_keep o1 fun g q => Below.heap_alloc w1 (.cells #[.int .i64 (reP r).1, .int .i64 (reP r).2] 26) g (o1.lt g q).2)
  clear h1 hp b1 o1
  go_upto_region 2 with fail
  have HK1 : Hid (Bk (w1.alloc (.cells #[.int .i64 (reP r).1, .int .i64 (reP r).2] 26)) w1.heap.size 26 [.int .i64 (reP r).1, .int .i64 (reP r).2]) := HK1
  generalize (w1.alloc (.cells #[.int .i64 (reP r).1, .int .i64 (reP r).2] 26)) = wa at *
  generalize w1.heap.size = F1 at *
  go_wp2_with fail
  (with_reducible refine (hq wa).mono ?_)
  intro x w2 h2
  obtain ⟨A2, c2, rfl, b2, o2⟩ := h2.all
  have hb2 := b2.alloc b2.size (.cells #[.int .i64 (reP r).1, .int .i64 (reP r).2] 26)
  have B2 := Lib.hid (B1.out.trans (hb2.mono B1.out.size))
  have HK2 := Lib.hid (Bk.new w2 26 [.int .i64 (reP r).1, .int .i64 (reP r).2])
  have O2 := Lib.hid (own_keep o2 fun g q => Below.heap_alloc w2 (.cells #[.int .i64 (reP r).1, .int .i64 (reP r).2] 26) g (o2.lt g q).2)
  have O1' := Lib.hid (own_keep O1.out fun g q => hb2.block g (O1.out.lt g q).2)
  have HK1' := Lib.hid (HK1.out.below hb2 HK1.out.lt)
  clear h2 hq b2 o2 hb2 HK1 O1 B1
  go_upto_region 3 with fail
  have HK2 : Hid (Bk (w2.alloc (.cells #[.int .i64 (reP r).1, .int .i64 (reP r).2] 26)) w2.heap.size 26 [.int .i64 (reP r).1, .int .i64 (reP r).2]) := HK2
  generalize (w2.alloc (.cells #[.int .i64 (reP r).1, .int .i64 (reP r).2] 26)) = wb at *
  generalize w2.heap.size = F2 at *
  generalize reP r = e at *
  obtain ⟨e1, e2⟩ := e
  have f0 := HK1'.out.cell 0
  have f1 := HK1'.out.cell 1
  have g0 := HK2.out.cell 0
  have g1 := HK2.out.cell 1
  simp only [List.getElem?_cons_zero, List.getElem?_cons_succ] at f0 f1 g0 g1
  obtain ⟨A3, c3, ea, i1⟩ := Ivs.of_own O1'.out
  obtain ⟨A4, c4, eb, i2⟩ := Ivs.of_own O2.out
  injection ea with ea1 ea2 ea3
  injection eb with eb1 eb2 eb3
  subst ea1 ea3 eb1 eb3
  have hsm := sameIns_any A1 A2 c1 c2 (rlP r) (rlP r) wb i1 i2 (by omega) (by omega)
  clear i1 i2 ea2 eb2
  go_wp2_with fail
  (with_reducible refine hsm.mono ?_)
  rintro _ w5 ⟨rfl, b5⟩
  have B5 := Lib.hid (B2.out.trans (b5.mono B2.out.size))
  go_wp2_with fail
  go_ret
  exact ⟨by simp, B5.out⟩
/-- The block that a slice lies in. -/
def blkOf (v : Value) : Nat := v.ownBlock.getD 0
theorem row_of_own {w : World} {base size n : Nat} {e : TypeId} {v : Value} {xs : List Value} (h : w.ownsRow base e size v n xs) : Row w e size v (blkOf v) n xs := by
  refine ⟨h.1, ?_⟩
  rcases h.2 with h' | ⟨g, cap, cur, rfl, hb, hg, h1, h2, h3, h4⟩
  · exact .inl h'
  · exact .inr ⟨cap, cur, rfl, hg, h1, h2, h4, fun _ => h3⟩
theorem blk_some {v : Value} {b : Nat} (h : v.ownBlock = some b) : blkOf v = b := by unfold blkOf; rw [h]; rfl
theorem two_fl {w : World} {D1 D2 : Nat} {v1 v2 : Value} {l1 l2 : List IV} (h1 : w.ownsRow D1 40 8 v1 l1.length (outC l1)) (h2 : w.ownsRow D2 40 8 v2 l2.length (outC l2)) (hd : ∀ g, v1.ownBlock = some g → g < D2) :
    Fl w 40 8 (fun b => v1.ownBlock = some b ∨ v2.ownBlock = some b) [⟨v1, blkOf v1, l1.length⟩, ⟨v2, blkOf v2, l2.length⟩] (fun k => if k = 0 then outC l1 else outC l2) := by
  refine ⟨fun k x hx => ?_, fun k x hx e => ?_, fun k k' x x' hx hx' hne e e' => ?_⟩
  · match k, hx with
    | 0, hx => simp at hx; subst hx; exact row_of_own h1
    | 1, hx => simp at hx; subst hx; exact row_of_own h2
    | k + 2, hx => simp at hx
  · match k, hx with
    | 0, hx => simp at hx; subst hx; exact ⟨.inl e, (h1.lt _ e).2⟩
    | 1, hx => simp at hx; subst hx; exact ⟨.inr e, (h2.lt _ e).2⟩
    | k + 2, hx => simp at hx
  · match k, k', hx, hx' with
    | 0, 0, _, _ => exact absurd rfl hne
    | 1, 1, _, _ => exact absurd rfl hne
    | 0, 1, hx, hx' =>
      simp at hx hx'; subst hx hx'
      have := hd _ e
      have := (h2.lt _ e').1
      simp only at *
      omega
    | 1, 0, hx, hx' =>
      simp at hx hx'; subst hx hx'
      have := hd _ e'
      have := (h2.lt _ e).1
      simp only at *
      omega
    | k + 2, _, hx, _ => simp at hx
    | 0, k + 2, _, hx => simp at hx
    | 1, k + 2, _, hx => simp at hx
set_option maxHeartbeats 2000000 in
theorem textParses_any (s : Nm) (hs0 : s.length ≤ 140737488351232) (w : World) (hv : Tv w.heap.size w) : Calls Tryz.prog 3 #[.string ⟨s.toArray⟩] w fun e w' => e = .returned (.bool true) ∧ Below w.heap.size w w' := by
  have hx : (((⟨s.toArray⟩ : ByteArray).size : Nat) : Int) = (s.length : Int) := by show ((s.toArray.size : Nat) : Int) = _; simp
  by_cases h1 : 20000 < s.length
  · have d1 : decide ((20000 : Int) < (s.length : Int)) = true := decide_eq_true (by omega)
    have q1 : (20000 : Int) < (s.length : Int) := by omega
    go_enter Tryz.func3, Tryz.ntmps3
    go_wp2_with fail
    (with_reducible refine (awake_any w hv (Nat.le_refl _)).mono ?_)
    rintro _ w1 ⟨rfl, b1⟩
    go_wp2_with fail
    go_ret
    exact ⟨rfl, b1⟩
  · have d1 : decide ((20000 : Int) < (s.length : Int)) = false := decide_eq_false (by omega)
    have q1 : ¬ (20000 : Int) < (s.length : Int) := by omega
    have hp := fun (W : World) (hW : Below w.heap.size w W) => parse_any s (by omega) W (hv.below hW (Nat.le_refl _)) hW.size
    have hpp := fun (W : World) (hW : Below w.heap.size w W) => parses_any s (by omega) W (hv.below hW (Nat.le_refl _)) hW.size
    have haw := fun (W : World) (hW : Below w.heap.size w W) => awake_any W (hv.below hW (Nat.le_refl _)) hW.size
    have hL := rl_len s
    generalize parseP s = r at *
    go_enter Tryz.func3, Tryz.ntmps3
    go_wp2_with fail
    (with_reducible refine (hp w (Below.refl _ _)).mono ?_)
    intro x w1 h1
    obtain ⟨A1, c1, rfl, b1, o1⟩ := h1.all
    have B1 := Lib.hid (b1.alloc b1.size (.cells #[.int .i64 (reP r).1, .int .i64 (reP r).2] 26))
    have O1 := Lib.hid (own_keep o1 fun g q => Below.heap_alloc w1 (.cells #[.int .i64 (reP r).1, .int .i64 (reP r).2] 26) g (o1.lt g q).2)
    clear h1 b1 o1
    go_upto_region 4 with fail
    generalize (w1.alloc (.cells #[.int .i64 (reP r).1, .int .i64 (reP r).2] 26)) = wa at *
    generalize w1.heap.size = F1 at *
    go_wp2_with fail
    (with_reducible refine (hp wa B1.out).mono ?_)
    intro x w2 h2
    obtain ⟨A2, c2, rfl, b2, o2⟩ := h2.all
    have hb2 := b2.alloc b2.size (.cells #[.int .i64 (reP r).1, .int .i64 (reP r).2] 26)
    have B2 := Lib.hid (B1.out.trans (hb2.mono B1.out.size))
    have O2 := Lib.hid (own_keep o2 fun g q => Below.heap_alloc w2 (.cells #[.int .i64 (reP r).1, .int .i64 (reP r).2] 26) g (o2.lt g q).2)
    have O1' := Lib.hid (own_keep O1.out fun g q => hb2.block g (O1.out.lt g q).2)
    have HWA := Lib.hid B1.out.size
    have HD := Lib.hid (fun g (q : Value.ownBlock (.slice A1 (rlP r).length c1) = some g) => (O1.out.lt g q).2)
    clear h2 b2 o2 hb2 O1 B1
    go_upto_region 5 with fail
    generalize (w2.alloc (.cells #[.int .i64 (reP r).1, .int .i64 (reP r).2] 26)) = wb at *
    generalize w2.heap.size = F2 at *
    clear hp
    go_wp2_with fail
    (with_reducible refine (hpp wb B2.out).mono ?_)
    rintro _ w3 ⟨rfl, b3⟩
    have B3 := Lib.hid (B2.out.trans (b3.mono B2.out.size))
    have O13 := Lib.hid (own_keep O1'.out fun g q => b3.block g (O1'.out.lt g q).2)
    have O23 := Lib.hid (own_keep O2.out fun g q => b3.block g (O2.out.lt g q).2)
    clear hpp O1' O2 b3 B2
    go_wp2_with fail
    have hal := (Below.refl w3.heap.size w3).alloc (Nat.le_refl _) (.cells #[.slice A1 (rlP r).length c1, .slice A2 (rlP r).length c2] 23)
    have hfl := two_fl (own_keep O13.out fun g q => hal.block g (O13.out.lt g q).2) (own_keep O23.out fun g q => hal.block g (O23.out.lt g q).2) HD.out
    have hou : Outer (w3.alloc (.cells #[.slice A1 (rlP r).length c1, .slice A2 (rlP r).length c2] 23)) (fun b => Value.ownBlock (.slice A1 (rlP r).length c1) = some b ∨ Value.ownBlock (.slice A2 (rlP r).length c2) = some b) (some ⟨w3.heap.size, 0, none⟩) 2 [⟨.slice A1 (rlP r).length c1, blkOf (.slice A1 (rlP r).length c1), (rlP r).length⟩, ⟨.slice A2 (rlP r).length c2, blkOf (.slice A2 (rlP r).length c2), (rlP r).length⟩] := by
      refine ⟨⟨fun e => (by cases e), fun _ => ⟨_, rfl, ⟨?_, by simp⟩, fun j u hu => ?_⟩⟩, Nat.le_refl _, by decide⟩
      · rintro (q | q)
        · have := (O13.out.lt _ q).2; simp at this
        · have := (O23.out.lt _ q).2; simp at this
      · exact news_new w3 [.slice A1 (rlP r).length c1, .slice A2 (rlP r).length c2] 23 j u hu
    have hap := ApartIns_any _ _ _ _ _ _ hfl hou (fun b q => by rcases q with q | q; exact Nat.lt_of_lt_of_le (O13.out.lt _ q).2 hal.size; exact Nat.lt_of_lt_of_le (O23.out.lt _ q).2 hal.size) (by simp) (fun x hx => by simp at hx; rcases hx with rfl | rfl <;> (simp only; omega))
    have HAL := Lib.hid hal
    clear hfl hou hal
    simp only [List.length_cons, List.length_nil] at hap
    (with_reducible refine hap.mono ?_)
    rintro _ w4 ⟨rfl, a4⟩
    have B4 := Lib.hid ((B3.out.trans (HAL.out.mono B3.out.size)).trans (a4.below (n := w.heap.size) (Nat.le_trans B3.out.size HAL.out.size) (fun k hk q => by
      rcases q with q | q
      · have := (O13.out.lt _ q).1; omega
      · have := (O23.out.lt _ q).1; have := HWA.out; omega)))
    clear hap a4
    go_wp2_with fail
    (with_reducible refine (haw w4 B4.out).mono ?_)
    rintro _ w5 ⟨rfl, b5⟩
    have B5 := Lib.hid (B4.out.trans (b5.mono B4.out.size))
    go_wp2_with fail
    go_ret
    exact ⟨rfl, B5.out⟩
end Go.Proofs.YtjebjninlejoeaaGreatDoor
namespace Go.Proofs.YtjebjninlejoeaaGreatDoor
open Go.ChangeShapes Go.WideShapes Go.ChangeAt Go.RowKit Go.Deep Go.ChangeMaps
set_option linter.unusedVariables false

section
variable {H : Type} {enc : TypeId × Value → H}
theorem came_insz {W : World} {fuel : Nat} {v : Value} {x : DataW H × List MemPlace} (h : DataW.trod enc Tryz.prog W 0 (fun _ => true) true fuel 23 [v] = some x) :
    ∃ A c es, v = .slice A (List.length es) c ∧ Ivs W (fun b => b < W.heap.size) A c es ∧ (A = none → c = 0) := by
  obtain ⟨A, c, es, hv, hI⟩ := came_ins h
  refine ⟨A, c, es, hv, hI, fun e => ?_⟩
  rcases open_slice Tryz.underlying23 h with ⟨hcs, _⟩ | ⟨a, len, cap, m, n, D, Pl, hcs, _⟩
  · injection hcs with hcs
    rw [hv] at hcs
    injection hcs
  · injection hcs with hcs
    rw [hv] at hcs
    injection hcs with h1
    rw [e] at h1
    cases h1
end
end Go.Proofs.YtjebjninlejoeaaGreatDoor
