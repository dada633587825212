/- text, the walk: the words of the language. -/
import Derived.Test.YtjebjninlejoeaaGreatDoorMp
namespace Go.Proofs.YtjebjninlejoeaaGreatDoor
open Go.RowKit Go.Maps Go.ChangeMaps
set_option linter.unusedVariables false
set_option linter.unusedSimpArgs false
set_option linter.unusedSectionVars false
set_option maxRecDepth 100000

theorem wayTy : Tryz.prog.underlying 53 = some (.map 9 114) := Tryz.underlying53
def wayV (i : IV) (f : Value) : Value := .agg (ivV i ++ [f]).toArray
def fnV (g : Nat) : Value := .func (.func g) #[] #[]
theorem fields_ops : Lib.fields (⟨#[97, 100, 100, 32, 115, 117, 98, 32, 109, 117, 108, 32, 100, 105, 118, 32, 109, 111, 100, 32, 97, 110, 100, 32, 111, 114, 32, 120, 111, 114, 32, 115, 104, 108, 32, 115, 104, 114, 32, 115, 97, 114, 32, 109, 111, 118, 32, 110, 101, 103]⟩ : ByteArray).data.toList = ops := by decide +kernel
theorem fields_qus : Lib.fields (⟨#[106, 101, 113, 32, 106, 110, 101, 32, 106, 103, 116, 32, 106, 103, 101, 32, 106, 108, 116, 32, 106, 108, 101, 32, 106, 115, 103, 116, 32, 106, 115, 103, 101, 32, 106, 115, 108, 116, 32, 106, 115, 108, 101, 32, 106, 115, 101, 116]⟩ : ByteArray).data.toList = qus := by decide +kernel
theorem operators_any {B : Nat} (w : World) (hv : Tv B w) : Calls Tryz.prog 58 #[] w fun e w' => e = .returned (.slice (some ⟨w.heap.size, 0, none⟩) 13 13) ∧ w' = w.alloc (.cells (ops.map nmV).toArray 9) := by
  have hcon := Tryz.strings_Fields ⟨#[97, 100, 100, 32, 115, 117, 98, 32, 109, 117, 108, 32, 100, 105, 118, 32, 109, 111, 100, 32, 97, 110, 100, 32, 111, 114, 32, 120, 111, 114, 32, 115, 104, 108, 32, 115, 104, 114, 32, 115, 97, 114, 32, 109, 111, 118, 32, 110, 101, 103]⟩ w (by decide) (Go.Proofs.ascii_of_all (by decide)) hv.sp
  rw [fields_ops] at hcon
  go_enter Tryz.func58, Tryz.ntmps58
  go_wp2_with fail
  (with_reducible refine hcon.mono ?_)
  rintro _ w1 ⟨rfl, rfl⟩
  go_wp2_with fail
  go_ret
  exact ⟨rfl, rfl⟩
theorem questions_any {B : Nat} (w : World) (hv : Tv B w) : Calls Tryz.prog 61 #[] w fun e w' => e = .returned (.slice (some ⟨w.heap.size, 0, none⟩) 11 11) ∧ w' = w.alloc (.cells (qus.map nmV).toArray 9) := by
  have hcon := Tryz.strings_Fields ⟨#[106, 101, 113, 32, 106, 110, 101, 32, 106, 103, 116, 32, 106, 103, 101, 32, 106, 108, 116, 32, 106, 108, 101, 32, 106, 115, 103, 116, 32, 106, 115, 103, 101, 32, 106, 115, 108, 116, 32, 106, 115, 108, 101, 32, 106, 115, 101, 116]⟩ w (by decide) (Go.Proofs.ascii_of_all (by decide)) hv.sp
  rw [fields_qus] at hcon
  go_enter Tryz.func61, Tryz.ntmps61
  go_wp2_with fail
  (with_reducible refine hcon.mono ?_)
  rintro _ w1 ⟨rfl, rfl⟩
  go_wp2_with fail
  go_ret
  exact ⟨rfl, rfl⟩
theorem MapTo.trans {m : Nat} {a b c : World} (h : MapTo m a b) (k : MapTo m b c) : MapTo m a c := ⟨k.os.trans h.os, k.tape.trans h.tape, k.output.trans h.output, k.size.trans h.size, fun i hi => (k.far i hi).trans (h.far i hi)⟩
theorem bk_ne_mf {W : World} {g m : Nat} {t : TypeId} {cs : List Value} {φ : Nm → Option Value} (h : Bk W g t cs) (hm : Mf W m φ) : g ≠ m := by
  rintro rfl
  obtain ⟨L, ⟨es, ck, h1, _⟩, _⟩ := hm
  have h : W.heap[g]? = _ := h
  rw [h1] at h
  cases h
/-- The map of words, in a variable of its own. -/
structure WI (w : World) (b m : Nat) (φ : Nm → Option Value) (W : World) : Prop where
  box : Bk W b 53 [.map (some m)]
  mp : Mf W m φ
  ne : b ≠ m
  low : Below w.heap.size w W
  lb : w.heap.size ≤ b
  lm : w.heap.size ≤ m
theorem WI.upd {w : World} {b m : Nat} {φ : Nm → Option Value} {W : World} (h : WI w b m φ W) (s : Nm) (hs : s.length ≤ 1000) (v : Value) : ∃ W', (Instr.mapUpdate 53 (.map (some m)) (nmV s) v).run Tryz.prog W = .ok () W' ∧ WI w b m (upF φ s v) W' ∧ MapTo m W W' := by
  obtain ⟨W', h1, h2, h3⟩ := h.mp.upd wayTy s (by omega) v
  exact ⟨W', h1, ⟨(h2.far b h.ne).trans h.box, h3, h.ne, ⟨h2.os.trans h.low.os, h2.tape.trans h.low.tape, h2.output.trans h.low.output, by rw [h2.size]; exact h.low.size, fun i hi => (h2.far i (by have := h.lm; omega)).trans (h.low.block i hi)⟩, h.lb, h.lm⟩, h2⟩
theorem WI.below {w : World} {b m : Nat} {φ : Nm → Option Value} {W W' : World} (h : WI w b m φ W) (hb : Below W.heap.size W W') : WI w b m φ W' :=
  ⟨h.box.below hb h.box.lt, h.mp.keep (hb.block m h.mp.lt), h.ne, h.low.trans (hb.mono h.low.size), h.lb, h.lm⟩
theorem both_any {w : World} {b m : Nat} {φ : Nm → Option Value} {W : World} (h : WI w b m φ W) (s : Nm) (hs : s.length ≤ 100) (k : Int) (g : Nat) : Calls Tryz.prog 57 #[nmV s, .int .u8 k, fnV g, .pointer (some ⟨b, 0, none⟩)] W fun e W' => e = .returned (.tuple #[]) ∧ WI w b m (upF (upF φ s (wayV (iv0 k) (fnV g))) (s ++ n32) (wayV { iv0 k with narrow := true } (fnV g))) W' ∧ MapTo m W W' := by
  have c0 := h.box.cell 0
  simp only [List.getElem?_cons_zero] at c0
  obtain ⟨W1, h1, i1, t1⟩ := h.upd s (by omega) (wayV (iv0 k) (fnV g))
  have c1 := i1.box.cell 0
  simp only [List.getElem?_cons_zero] at c1
  obtain ⟨W2, h2, i2, t2⟩ := i1.upd (s ++ n32) (by simp [n32]; omega) (wayV { iv0 k with narrow := true } (fnV g))
  unfold wayV ivV iv0 nmV fnV at h1 h2
  simp only [List.cons_append, List.nil_append] at h1 h2
  have hc : ((⟨s.toArray⟩ : ByteArray) ++ ⟨#[51, 50]⟩) = ⟨(s ++ n32).toArray⟩ := cat_is s n32
  unfold nmV fnV
  go_enter Tryz.func57, Tryz.ntmps57
  go_wp2_with fail
  first
    | exact bodyPost_end (v := .tuple #[]) (by simp [results, Tryz.results57, go_sem]) rfl ⟨rfl, i2, t1.trans t2⟩
    | exact bodyPost_ret (v := .tuple #[]) (by simp [results, Tryz.results57, go_sem]) rfl ⟨rfl, i2, t1.trans t2⟩
def kindF : Kind → Nat
  | .alu => 59
  | .neg => 60
  | .ask => 62
  | .load => 63
  | .put => 65
  | .far => 55
  | .exit => 56
def kV (p : IV × Kind) : Value := wayV p.1 (fnV (kindF p.2))
def upFs (φ : Nm → Option Value) (U : List (Nm × (IV × Kind))) : Nm → Option Value := U.foldl (fun φ p => upF φ p.1 (kV p.2)) φ
theorem upFs_app (φ : Nm → Option Value) (U V : List (Nm × (IV × Kind))) : upFs φ (U ++ V) = upFs (upFs φ U) V := by simp [upFs]
theorem upFs_find (U : List (Nm × (IV × Kind))) (s : Nm) : upFs (fun _ => none) U s = (U.reverse.find? fun p => decide (p.1 = s)).map fun p => kV p.2 := by
  induction h : U.reverse generalizing U with
  | nil =>
    have : U = [] := by simpa using h
    subst this
    rfl
  | cons p V ih =>
    have hU : U = V.reverse ++ [p] := by
      have := congrArg List.reverse h
      simpa using this
    rw [hU, upFs_app]
    have ih' := ih V.reverse (by simp)
    show upF (upFs (fun _ => none) V.reverse) p.1 (kV p.2) s = _
    unfold upF
    rw [List.find?_cons]
    by_cases e : s = p.1
    · simp [e]
    · rw [if_neg e, ih']
      have : decide (p.1 = s) = false := decide_eq_false (fun q => e q.symm)
      rw [this]
def w0 : List (Nm × (IV × Kind)) := [(jumpW, (iv0 16, .far)), (exitW, (iv0 28, .exit))]
def w1 (k : Nat) : List (Nm × (IV × Kind)) := (ops.zipIdx.take k).flatMap fun p => both (p.2 + 1) p.1 .alu
def w3 (k : Nat) : List (Nm × (IV × Kind)) := (qus.zipIdx.take k).flatMap fun p => both (p.2 + 17) p.1 .ask
def szs : List (UInt8 × Int) := [(49, 1), (50, 2), (52, 4), (56, 8)]
def w4 (k : Nat) : List (Nm × (IV × Kind)) := (szs.take k).flatMap fun (p : UInt8 × Int) => [(loadW ++ [p.1], ({ iv0 14 with size := p.2 }, .load)), (putW ++ [p.1], ({ iv0 15 with size := p.2 }, .put))]
def wall : List (Nm × (IV × Kind)) := w0 ++ w1 13 ++ both 13 [110, 101, 103] .neg ++ w3 11 ++ w4 4
theorem wall_is (s : Nm) : upFs (fun _ => none) wall s = (wayP s).map kV := by
  rw [upFs_find]
  have e : (wall.reverse.find? fun p => decide (p.1 = s)).map (·.2) = wayP s := by
    by_cases hm : s ∈ wall.map (·.1)
    · have : ∀ s ∈ wall.map (·.1), (wall.reverse.find? fun p => decide (p.1 = s)).map (·.2) = wayP s := by decide +kernel
      exact this s hm
    · have h1 : wall.reverse.find? (fun p => decide (p.1 = s)) = none := by
        rw [List.find?_eq_none]
        intro p hp q
        exact hm (List.mem_map.2 ⟨p, List.mem_reverse.1 hp, of_decide_eq_true q⟩)
      have h2 : wayP s = none := by
        unfold wayP
        have : ways.find? (fun p => decide (p.1 = s)) = none := by
          rw [List.find?_eq_none]
          intro p hp q
          have hk : ∀ p ∈ ways, p.1 ∈ wall.map (·.1) := by decide +kernel
          have := hk p hp
          rw [of_decide_eq_true q] at this
          exact hm this
        rw [this]
        rfl
      rw [h1, h2]
      rfl
  rw [← e, Option.map_map]
  rfl
theorem w1_succ {k : Nat} {s : Nm} (hk : k < 13) (hs : ops[k]? = some s) : w1 (k + 1) = w1 k ++ both (k + 1) s .alu := by
  have : k = 0 ∨ k = 1 ∨ k = 2 ∨ k = 3 ∨ k = 4 ∨ k = 5 ∨ k = 6 ∨ k = 7 ∨ k = 8 ∨ k = 9 ∨ k = 10 ∨ k = 11 ∨ k = 12 := by omega
  rcases this with rfl | rfl | rfl | rfl | rfl | rfl | rfl | rfl | rfl | rfl | rfl | rfl | rfl <;> (injection hs with hs; subst hs; rfl)
theorem w3_succ {k : Nat} {s : Nm} (hk : k < 11) (hs : qus[k]? = some s) : w3 (k + 1) = w3 k ++ both (k + 17) s .ask := by
  have : k = 0 ∨ k = 1 ∨ k = 2 ∨ k = 3 ∨ k = 4 ∨ k = 5 ∨ k = 6 ∨ k = 7 ∨ k = 8 ∨ k = 9 ∨ k = 10 := by omega
  rcases this with rfl | rfl | rfl | rfl | rfl | rfl | rfl | rfl | rfl | rfl | rfl <;> (injection hs with hs; subst hs; rfl)
theorem ops_short : ∀ s ∈ ops, s.length ≤ 100 := by decide
theorem qus_short : ∀ s ∈ qus, s.length ≤ 100 := by decide
theorem w4_succ {k : Nat} {p : UInt8 × Int} (hk : k < 4) (hp : szs[k]? = some p) : w4 (k + 1) = w4 k ++ [(loadW ++ [p.1], ({ iv0 14 with size := p.2 }, Kind.load)), (putW ++ [p.1], ({ iv0 15 with size := p.2 }, Kind.put))] := by
  have : k = 0 ∨ k = 1 ∨ k = 2 ∨ k = 3 := by omega
  rcases this with rfl | rfl | rfl | rfl <;> (injection hp with hp; subst hp; rfl)
theorem size_itoa {k : Nat} {p : UInt8 × Int} (hp : szs[k]? = some p) (W : World) : Calls Tryz.prog 64 #[.int .i64 p.2] W fun e w' => e = .returned (.string ⟨#[p.1]⟩) ∧ w' = W := by
  have h1 := Tryz.strconv_Itoa_small 1 (by decide) W
  have h2 := Tryz.strconv_Itoa_small 2 (by decide) W
  have h4 := Tryz.strconv_Itoa_small 4 (by decide) W
  have h8 := Tryz.strconv_Itoa_small 8 (by decide) W
  rw [Lib.decDigits_one (by decide)] at h1 h2 h4 h8
  match k, hp with
  | 0, hp => injection hp with hp; subst hp; exact h1
  | 1, hp => injection hp with hp; subst hp; exact h2
  | 2, hp => injection hp with hp; subst hp; exact h4
  | 3, hp => injection hp with hp; subst hp; exact h8
  | k + 4, hp => simp [szs] at hp
theorem mf_new (w : World) : Mf (w.alloc (.map #[] 0)) w.heap.size (fun _ => none) := ⟨[], ⟨[], 0, heap_alloc_new w _, EsOk.nil _ _, rfl⟩, .nil, fun _ => rfl⟩
set_option maxHeartbeats 1000000 in
theorem ways_any {B : Nat} (w : World) (hv : Tv B w) (hB : B ≤ w.heap.size) : Calls Tryz.prog 26 #[] w fun e w' => ∃ m, e = .returned (.map (some m)) ∧ w.heap.size ≤ m ∧ Mf w' m (fun s => (wayP s).map kV) ∧ Below w.heap.size w w' := by
  have hmm := @run_makeMap Tryz.prog
  obtain ⟨W1, e1, m1, hM1⟩ := (mf_new w).upd wayTy jumpW (by decide) (kV (iv0 16, .far))
  obtain ⟨W2, e2, m2, hM2⟩ := hM1.upd wayTy exitW (by decide) (kV (iv0 28, .exit))
  have hz1 : W1.heap.size = w.heap.size + 1 := by rw [m1.size, World.size_alloc]
  have hz2 : W2.heap.size = w.heap.size + 1 := by rw [m2.size, hz1]
  have b2 : Below w.heap.size w W2 := ⟨m2.os.trans m1.os, m2.tape.trans m1.tape, m2.output.trans m1.output, by omega, fun i hi => (m2.far i (by omega)).trans ((m1.far i (by omega)).trans (Below.heap_alloc w _ i hi))⟩
  have hI : WI w (w.heap.size + 1) w.heap.size (upFs (fun _ => none) w0) (W2.alloc (.cells #[.map (some w.heap.size)] 53)) := by
    have hB2 := Bk.new W2 53 [.map (some w.heap.size)]
    rw [hz2] at hB2
    exact ⟨hB2, hM2.keep (Below.heap_alloc W2 _ _ (by omega)), by omega, b2.alloc b2.size _, by omega, Nat.le_refl _⟩
  clear hM1 hM2 b2
  simp only [kV, wayV, ivV, iv0, nmV, fnV, kindF, jumpW, exitW, List.cons_append, List.nil_append] at e1 e2
  go_enter Tryz.func26, Tryz.ntmps26
  go_wp2_with fail
  generalize (W2.alloc (.cells #[.map (some w.heap.size)] 53)) = W3 at *
  (with_reducible refine (operators_any W3 (hv.below hI.low hB)).mono ?_)
  rintro _ W4 ⟨rfl, rfl⟩
  have hO := Bk.new W3 9 (ops.map nmV)
  have hI := hI.below ((Below.refl W3.heap.size W3).alloc (Nat.le_refl _) (.cells (ops.map nmV).toArray 9))
  clear e1 e2 m1 m2 hz1 hz2
  generalize (W3.alloc (.cells (ops.map nmV).toArray 9)) = W4 at *
  obtain ⟨go, hgo⟩ : ∃ g, g = W3.heap.size := ⟨_, rfl⟩
  rw [← hgo] at hO ⊢
  clear hgo
  go_wp2_with fail
  go_loopw [18] (fun i wr => ∃ k : Nat, k ≤ 13 ∧ i = .int .i64 k ∧ WI w (w.heap.size + 1) w.heap.size (upFs (fun _ => none) (w0 ++ w1 k)) wr ∧ Bk wr go 9 (ops.map nmV)) (fun i _ => 13 - (intOf i).toNat)
  case atStart => exact ⟨0, by omega, rfl, by simpa [w1] using hI, hO⟩
  case round =>
    clear hI hO
    obtain ⟨k, hk, rfl, hI, hO⟩ := hrel
    by_cases hlt : k < 13
    · have d1 : decide ((k : Int) < 13) = true := decide_eq_true (by omega)
      obtain ⟨s, hs⟩ : ∃ s, ops[k]? = some s := ⟨ops[k]'(by show k < 13; omega), List.getElem?_eq_getElem _⟩
      have cO := hO.cell k
      rw [List.getElem?_map, hs] at cO
      simp only [Option.map_some, nmV] at cO
      have q1 : (0 : Int) ≤ (k : Int) := by omega
      have q2 : (k : Int) < 13 := hlt |> fun h => by omega
      go_wp2_with fail
      have hbo := both_any hI s (ops_short s (List.mem_of_getElem? hs)) (1 + (k : Int)) 59
      unfold nmV fnV at hbo
      (with_reducible refine hbo.mono ?_)
      rintro _ w5 ⟨rfl, hI5, t5⟩
      have hO5 : Bk w5 go 9 (ops.map nmV) := (t5.far go (bk_ne_mf hO hI.mp)).trans hO
      have hU : upFs (fun _ => none) (w0 ++ w1 (k + 1)) = upF (upF (upFs (fun _ => none) (w0 ++ w1 k)) s (wayV (iv0 (1 + (k : Int))) (.func (.func 59) #[] #[]))) (s ++ n32) (wayV { iv0 (1 + (k : Int)) with narrow := true } (.func (.func 59) #[] #[])) := by
        rw [w1_succ hlt hs, ← List.append_assoc, upFs_app, show (1 + (k : Int)) = ((k + 1 : Nat) : Int) by omega]
        rfl
      rw [← hU] at hI5
      clear hI hO hU hbo cO t5
      go_wp2_with fail
      go_roundw
      case rel => exact ⟨k + 1, by omega, by go_num, hI5, hO5⟩
      case measure => simp [intOf]; omega
    · have d1 : decide ((k : Int) < 13) = false := decide_eq_false (by omega)
      have hk13 : k = 13 := by omega
      subst hk13
      go_wp2_with fail
      have hbo := both_any hI [110, 101, 103] (by decide) 13 60
      unfold nmV fnV at hbo
      (with_reducible refine hbo.mono ?_)
      rintro _ w5 ⟨rfl, hI5, t5⟩
      have hU : upFs (fun _ => none) (w0 ++ w1 13 ++ both 13 [110, 101, 103] .neg) = upF (upF (upFs (fun _ => none) (w0 ++ w1 13)) [110, 101, 103] (wayV (iv0 13) (.func (.func 60) #[] #[]))) ([110, 101, 103] ++ n32) (wayV { iv0 13 with narrow := true } (.func (.func 60) #[] #[])) := by
        rw [upFs_app]
        rfl
      rw [← hU] at hI5
      clear hI hO hU hbo t5
      go_wp2_with fail
      (with_reducible refine (questions_any w5 (hv.below hI5.low hB)).mono ?_)
      rintro _ w6 ⟨rfl, rfl⟩
      have hQ := Bk.new w5 9 (qus.map nmV)
      have hI := hI5.below ((Below.refl w5.heap.size w5).alloc (Nat.le_refl _) (.cells (qus.map nmV).toArray 9))
      clear hI5
      generalize (w5.alloc (.cells (qus.map nmV).toArray 9)) = w6 at *
      generalize w5.heap.size = gq at *
      go_wp2_with fail
      go_loopw [34] (fun i wr => ∃ k : Nat, k ≤ 11 ∧ i = .int .i64 k ∧ WI w (w.heap.size + 1) w.heap.size (upFs (fun _ => none) (w0 ++ w1 13 ++ both 13 [110, 101, 103] .neg ++ w3 k)) wr ∧ Bk wr gq 9 (qus.map nmV)) (fun i _ => 11 - (intOf i).toNat)
      case atStart => exact ⟨0, by omega, rfl, by simpa [w3] using hI, hQ⟩
      case round =>
        clear hI hQ
        obtain ⟨k, hk, rfl, hI, hQ⟩ := hrel
        by_cases hlt : k < 11
        · have d1 : decide ((k : Int) < 11) = true := decide_eq_true (by omega)
          obtain ⟨s, hs⟩ : ∃ s, qus[k]? = some s := ⟨qus[k]'(by show k < 11; omega), List.getElem?_eq_getElem _⟩
          have cO := hQ.cell k
          rw [List.getElem?_map, hs] at cO
          simp only [Option.map_some, nmV] at cO
          have q1 : (0 : Int) ≤ (k : Int) := by omega
          have q2 : (k : Int) < 11 := hlt |> fun h => by omega
          go_wp2_with fail
          have hbo := both_any hI s (qus_short s (List.mem_of_getElem? hs)) (17 + (k : Int)) 62
          unfold nmV fnV at hbo
          (with_reducible refine hbo.mono ?_)
          rintro _ w7 ⟨rfl, hI7, t7⟩
          have hQ7 : Bk w7 gq 9 (qus.map nmV) := (t7.far gq (bk_ne_mf hQ hI.mp)).trans hQ
          have hU : upFs (fun _ => none) (w0 ++ w1 13 ++ both 13 [110, 101, 103] .neg ++ w3 (k + 1)) = upF (upF (upFs (fun _ => none) (w0 ++ w1 13 ++ both 13 [110, 101, 103] .neg ++ w3 k)) s (wayV (iv0 (17 + (k : Int))) (.func (.func 62) #[] #[]))) (s ++ n32) (wayV { iv0 (17 + (k : Int)) with narrow := true } (.func (.func 62) #[] #[])) := by
            rw [w3_succ hlt hs, ← List.append_assoc, upFs_app, show (17 + (k : Int)) = ((k + 17 : Nat) : Int) by omega]
            rfl
          rw [← hU] at hI7
          clear hI hQ hU hbo cO t7
          go_wp2_with fail
          go_roundw
          case rel => exact ⟨k + 1, by omega, by go_num, hI7, hQ7⟩
          case measure => simp [intOf]; omega
        · have d1 : decide ((k : Int) < 11) = false := decide_eq_false (by omega)
          have hk11 : k = 11 := by omega
          subst hk11
          clear hQ
          go_wp2_with fail
          have hZ := Bk.new wr 3 [.int .i64 1, .int .i64 2, .int .i64 4, .int .i64 8]
          have hI := hI.below ((Below.refl wr.heap.size wr).alloc (Nat.le_refl _) (.cells #[.int .i64 1, .int .i64 2, .int .i64 4, .int .i64 8] 3))
          have hZ : Bk (wr.alloc (.cells #[.int .i64 1, .int .i64 2, .int .i64 4, .int .i64 8] 3)) wr.heap.size 3 (szs.map fun p => Value.int .i64 p.2) := hZ
          generalize (wr.alloc (.cells #[.int .i64 1, .int .i64 2, .int .i64 4, .int .i64 8] 3)) = w9 at *
          generalize wr.heap.size = gz at *
          go_loopw [48] (fun i wx => ∃ k : Nat, k ≤ 4 ∧ i = .int .i64 k ∧ WI w (w.heap.size + 1) w.heap.size (upFs (fun _ => none) (w0 ++ w1 13 ++ both 13 [110, 101, 103] .neg ++ w3 11 ++ w4 k)) wx ∧ Bk wx gz 3 (szs.map fun p => Value.int .i64 p.2)) (fun i _ => 4 - (intOf i).toNat)
          case atStart => exact ⟨0, by omega, rfl, by simpa [w4] using hI, hZ⟩
          case round =>
            clear hI hZ
            obtain ⟨k, hk, rfl, hI, hZ⟩ := hrel
            by_cases hlt : k < 4
            · have d1 : decide ((k : Int) < 4) = true := decide_eq_true (by omega)
              obtain ⟨p, hp⟩ : ∃ p, szs[k]? = some p := ⟨szs[k]'(by show k < 4; omega), List.getElem?_eq_getElem _⟩
              have cO := hZ.cell k
              rw [List.getElem?_map, hp] at cO
              simp only [Option.map_some] at cO
              have q1 : (0 : Int) ≤ (k : Int) := by omega
              have q2 : (k : Int) < 4 := hlt |> fun h => by omega
              have hit := size_itoa hp
              have hI1 := hI.below (Below.refl _ _).drew
              have cB := hI1.box.cell 0
              simp only [List.getElem?_cons_zero] at cB
              have hl1 : ((⟨#[108, 111, 97, 100]⟩ : ByteArray) ++ ⟨#[p.1]⟩) = ⟨(loadW ++ [p.1]).toArray⟩ := cat_is loadW [p.1]
              have hl2 : ((⟨#[112, 117, 116]⟩ : ByteArray) ++ ⟨#[p.1]⟩) = ⟨(putW ++ [p.1]).toArray⟩ := cat_is putW [p.1]
              obtain ⟨wa, ea, hIa, ta⟩ := hI1.upd (loadW ++ [p.1]) (by simp [loadW]) (kV ({ iv0 14 with size := p.2 }, .load))
              have hIb := hIa.below (Below.refl _ _).drew
              have cA := hIa.box.cell 0
              have cC := hIb.box.cell 0
              simp only [List.getElem?_cons_zero] at cA cC
              obtain ⟨wb, eb, hIc, tb⟩ := hIb.upd (putW ++ [p.1]) (by simp [putW]) (kV ({ iv0 15 with size := p.2 }, .put))
              have cD := hIc.box.cell 0
              simp only [List.getElem?_cons_zero] at cD
              have hZc : Bk wb gz 3 (szs.map fun p => Value.int .i64 p.2) := (tb.far gz (bk_ne_mf hZ hI.mp)).trans ((ta.far gz (bk_ne_mf hZ hI.mp)).trans hZ)
              have hU : upFs (fun _ => none) (w0 ++ w1 13 ++ both 13 [110, 101, 103] .neg ++ w3 11 ++ w4 (k + 1)) = upF (upF (upFs (fun _ => none) (w0 ++ w1 13 ++ both 13 [110, 101, 103] .neg ++ w3 11 ++ w4 k)) (loadW ++ [p.1]) (kV ({ iv0 14 with size := p.2 }, .load))) (putW ++ [p.1]) (kV ({ iv0 15 with size := p.2 }, .put)) := by
                rw [w4_succ hlt hp, ← List.append_assoc, upFs_app]
                rfl
              rw [← hU] at hIc
              simp only [kV, wayV, ivV, iv0, nmV, fnV, kindF, List.cons_append, List.nil_append] at ea eb
              clear hI hZ hU ta tb hI1 hIa hIb
              go_wp2_with fail
              refine wp_region_held_drew (S := fun W => W.cell? ⟨w.heap.size + 1, 0, none⟩ = some (.map (some w.heap.size))) (by kernel_rfl) cB (fun hS => ?_)
              refine wpAnyH_take (i := 0) (v := ?_) rfl (by kernel_rfl) (by kernel_rfl) (by kernel_rfl) (fun _ _ _ h => h) (Or.inl ⟨by rfl, ?_⟩) hS ?_
              rotate_left 1
              · intro w' hSw
                go_simp <;> with_reducible rfl
              try simp only [List.getElem_toArray, List.getElem_cons_zero, List.getElem_cons_succ, Act.put, List.setIfInBounds_toArray, List.set_cons_zero, List.set_cons_succ]
              refine wpAnyH_take (i := 1) (v := ?_) rfl (by kernel_rfl) (by kernel_rfl) (by kernel_rfl) (fun _ _ _ h => h) (Or.inl ⟨by rfl, ?_⟩) hS ?_
              rotate_left 1
              · intro w' hSw
                go_simp <;> with_reducible rfl
              try simp only [List.getElem_toArray, List.getElem_cons_zero, List.getElem_cons_succ, Act.put, List.setIfInBounds_toArray, List.set_cons_zero, List.set_cons_succ]
              refine wpAnyH_take (i := 4) (v := ?_) rfl (by kernel_rfl) (by kernel_rfl) (by kernel_rfl) (fun _ _ _ h => h) (Or.inl ⟨by rfl, ?_⟩) hS ?_
              rotate_left 1
              · intro w' hSw
                go_simp <;> with_reducible rfl
              try simp only [List.getElem_toArray, List.getElem_cons_zero, List.getElem_cons_succ, Act.put, List.setIfInBounds_toArray, List.set_cons_zero, List.set_cons_succ]
              refine wpAnyH_take (i := 5) (v := ?_) rfl (by kernel_rfl) (by kernel_rfl) (by kernel_rfl) (fun _ _ _ h => h) (Or.inl ⟨by rfl, ?_⟩) hS ?_
              rotate_left 1
              · intro w' hSw
                go_simp <;> with_reducible rfl
              try simp only [List.getElem_toArray, List.getElem_cons_zero, List.getElem_cons_succ, Act.put, List.setIfInBounds_toArray, List.set_cons_zero, List.set_cons_succ]
              refine wpAnyH_take (i := 6) (v := ?_) rfl (by kernel_rfl) (by kernel_rfl) (by kernel_rfl) (fun _ _ _ h => h) (Or.inl ⟨by rfl, ?_⟩) hS ?_
              rotate_left 1
              · intro w' hSw
                go_simp <;> with_reducible rfl
              try simp only [List.getElem_toArray, List.getElem_cons_zero, List.getElem_cons_succ, Act.put, List.setIfInBounds_toArray, List.set_cons_zero, List.set_cons_succ]
              refine wpAnyH_ready (rs := [2]) (by kernel_rfl) (by simp) (AllReadyH.cons rfl (fun K hK => ?_) AllReadyH.nil)
              go_simp
              (with_reducible refine (hit _).mono ?_)
              rintro _ w8 ⟨rfl, rfl⟩
              go_simp
              refine hK _ _ hS (fun hS => ?_)
              clear hK K
              try simp only [List.getElem_toArray, List.getElem_cons_zero, List.getElem_cons_succ, Act.put, List.setIfInBounds_toArray, List.set_cons_zero, List.set_cons_succ]
              refine wpAnyH_take (i := 3) (v := ?_) rfl (by kernel_rfl) (by kernel_rfl) (by kernel_rfl) (fun _ _ _ h => h) (Or.inl ⟨by rfl, ?_⟩) hS ?_
              rotate_left 1
              · intro w' hSw
                go_simp <;> with_reducible rfl
              try simp only [List.getElem_toArray, List.getElem_cons_zero, List.getElem_cons_succ, Act.put, List.setIfInBounds_toArray, List.set_cons_zero, List.set_cons_succ]
              refine wpAnyH_ready (rs := [7]) (by kernel_rfl) (by simp) (AllReadyH.cons rfl (fun K hK => ?_) AllReadyH.nil)
              go_simp
              refine hK _ _ cA (fun hS => ?_)
              clear hK K
              try simp only [List.getElem_toArray, List.getElem_cons_zero, List.getElem_cons_succ, Act.put, List.setIfInBounds_toArray, List.set_cons_zero, List.set_cons_succ]
              refine wpAnyH_done (by kernel_rfl) ?_ _
              go_wp2_with fail
              refine wp_region_held_drew (S := fun W => W.cell? ⟨w.heap.size + 1, 0, none⟩ = some (.map (some w.heap.size))) (by kernel_rfl) cC (fun hS => ?_)
              refine wpAnyH_take (i := 0) (v := ?_) rfl (by kernel_rfl) (by kernel_rfl) (by kernel_rfl) (fun _ _ _ h => h) (Or.inl ⟨by rfl, ?_⟩) hS ?_
              rotate_left 1
              · intro w' hSw
                go_simp <;> with_reducible rfl
              try simp only [List.getElem_toArray, List.getElem_cons_zero, List.getElem_cons_succ, Act.put, List.setIfInBounds_toArray, List.set_cons_zero, List.set_cons_succ]
              refine wpAnyH_take (i := 1) (v := ?_) rfl (by kernel_rfl) (by kernel_rfl) (by kernel_rfl) (fun _ _ _ h => h) (Or.inl ⟨by rfl, ?_⟩) hS ?_
              rotate_left 1
              · intro w' hSw
                go_simp <;> with_reducible rfl
              try simp only [List.getElem_toArray, List.getElem_cons_zero, List.getElem_cons_succ, Act.put, List.setIfInBounds_toArray, List.set_cons_zero, List.set_cons_succ]
              refine wpAnyH_take (i := 4) (v := ?_) rfl (by kernel_rfl) (by kernel_rfl) (by kernel_rfl) (fun _ _ _ h => h) (Or.inl ⟨by rfl, ?_⟩) hS ?_
              rotate_left 1
              · intro w' hSw
                go_simp <;> with_reducible rfl
              try simp only [List.getElem_toArray, List.getElem_cons_zero, List.getElem_cons_succ, Act.put, List.setIfInBounds_toArray, List.set_cons_zero, List.set_cons_succ]
              refine wpAnyH_take (i := 5) (v := ?_) rfl (by kernel_rfl) (by kernel_rfl) (by kernel_rfl) (fun _ _ _ h => h) (Or.inl ⟨by rfl, ?_⟩) hS ?_
              rotate_left 1
              · intro w' hSw
                go_simp <;> with_reducible rfl
              try simp only [List.getElem_toArray, List.getElem_cons_zero, List.getElem_cons_succ, Act.put, List.setIfInBounds_toArray, List.set_cons_zero, List.set_cons_succ]
              refine wpAnyH_take (i := 6) (v := ?_) rfl (by kernel_rfl) (by kernel_rfl) (by kernel_rfl) (fun _ _ _ h => h) (Or.inl ⟨by rfl, ?_⟩) hS ?_
              rotate_left 1
              · intro w' hSw
                go_simp <;> with_reducible rfl
              try simp only [List.getElem_toArray, List.getElem_cons_zero, List.getElem_cons_succ, Act.put, List.setIfInBounds_toArray, List.set_cons_zero, List.set_cons_succ]
              refine wpAnyH_ready (rs := [2]) (by kernel_rfl) (by simp) (AllReadyH.cons rfl (fun K hK => ?_) AllReadyH.nil)
              go_simp
              (with_reducible refine (hit _).mono ?_)
              rintro _ w8 ⟨rfl, rfl⟩
              go_simp
              refine hK _ _ hS (fun hS => ?_)
              clear hK K
              try simp only [List.getElem_toArray, List.getElem_cons_zero, List.getElem_cons_succ, Act.put, List.setIfInBounds_toArray, List.set_cons_zero, List.set_cons_succ]
              refine wpAnyH_take (i := 3) (v := ?_) rfl (by kernel_rfl) (by kernel_rfl) (by kernel_rfl) (fun _ _ _ h => h) (Or.inl ⟨by rfl, ?_⟩) hS ?_
              rotate_left 1
              · intro w' hSw
                go_simp <;> with_reducible rfl
              try simp only [List.getElem_toArray, List.getElem_cons_zero, List.getElem_cons_succ, Act.put, List.setIfInBounds_toArray, List.set_cons_zero, List.set_cons_succ]
              refine wpAnyH_ready (rs := [7]) (by kernel_rfl) (by simp) (AllReadyH.cons rfl (fun K hK => ?_) AllReadyH.nil)
              go_simp
              refine hK _ _ cD (fun hS => ?_)
              clear hK K
              try simp only [List.getElem_toArray, List.getElem_cons_zero, List.getElem_cons_succ, Act.put, List.setIfInBounds_toArray, List.set_cons_zero, List.set_cons_succ]
              refine wpAnyH_done (by kernel_rfl) ?_ _
              go_wp2_with fail
              go_roundw
              case rel => exact ⟨_, _, _, _, _, _, _, _, _, _, _, _, _, _, _, _, _, _, _, _, ⟨k + 1, by omega, by go_num, hIc, hZc⟩, rfl⟩
              case measure => simp [intOf]; omega
            · have d1 : decide ((k : Int) < 4) = false := decide_eq_false (by omega)
              have hk4 : k = 4 := by omega
              subst hk4
              have cB := hI.box.cell 0
              simp only [List.getElem?_cons_zero] at cB
              have hF := hI.mp
              have hw : upFs (fun _ => none) (w0 ++ w1 13 ++ both 13 [110, 101, 103] .neg ++ w3 11 ++ w4 4) = fun s => (wayP s).map kV := funext wall_is
              rw [hw] at hF
              have hlow := hI.low
              clear hI hZ hw
              go_wp2_with fail
              go_ret
              exact ⟨w.heap.size, rfl, Nat.le_refl _, hF, hlow⟩
end Go.Proofs.YtjebjninlejoeaaGreatDoor

