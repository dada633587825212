/- What an instruction does: the plain law; the map of what each kind does. Facts of the plain law: what an instruction leaves is of its kind. run.Do's deferred function. run.Do. -/
import Derived.StillTailTactics
import Derived.Recover
import Derived.Defers
import Derived.Laws.Tables
import Derived.Deep.LoopGhost
import Derived.Outline
import Derived.Deep.DeepCutAuto
import Derived.Test.YtbfegghkipoppaaZ14
namespace Go.Proofs.Ytbfegghkipoppaa
open Go.RowKit Go.Shelf
set_option linter.unusedVariables false
set_option maxRecDepth 100000

/-- What is behind an instruction: the machine, where it goes on, whether it is done; or a fault. -/
inductive Nx where
  | go (r st : List Int) (pc : Int) (dn : Bool)
  | err (e : Int)
/-- One instruction, pc being the place behind it. -/
def stepP (pk : List Int) (f : Ins) (r st : List Int) (pc : Int) : Nx :=
  let x := r.getD f.a.toNat 0
  let y := r.getD f.b.toNat 0
  let t := farP x f.n
  if f.op = 1 then .go (r.set f.d.toNat f.n) st pc false
  else if f.op = 2 then .go (r.set f.d.toNat x) st pc false
  else if f.op = 3 then if DoE f.nar f.what y = 0 then .go (r.set f.d.toNat (DoV f.nar f.what x y)) st pc false else .err (DoE f.nar f.what y)
  else if f.op = 4 then if errOf pk.length t f.size = 0 then .go (r.set f.d.toNat (getR pk t f.size)) st pc false else .err (errOf pk.length t f.size)
  else if f.op = 5 then if -512 ≤ t ∧ t ≤ -f.size then .go (r.set f.d.toNat (getR st (t + 512) f.size)) st pc false else .err 112
  else if f.op = 6 then if -512 ≤ t ∧ t ≤ -f.size then .go r (setA st 512 (t + 512) f.size y) pc false else .err 112
  else if f.op = 7 then .go r st f.to false
  else if f.op = 8 then if IsV f.nar f.what x y = true then .go r st f.to false else .go r st pc false
  else .go r st pc true
/-- An instruction's numbers are of their kinds. -/
structure InsOk (f : Ins) : Prop where
  w0 : 0 ≤ f.what
  n0 : 0 ≤ f.n
  n1 : f.n ≤ 18446744073709551615
def doesEs : List MapEntry := [fnE 1 25 0, fnE 2 26 1, fnE 3 27 2, fnE 4 28 3, fnE 5 29 4, fnE 6 30 5, fnE 7 31 6, fnE 8 32 7, fnE 9 33 8]
theorem does_any (w : World) : Calls Try.prog 20 #[] w fun e w' => e = .returned (.map (some w.heap.size)) ∧ w' = w.alloc (.map doesEs.toArray 9) := by
  have hmm := @run_makeMap Try.prog
  go_enter Try.func20, Try.ntmps20
  go_wp2_with fail
  iterate 9
    rw [upd_last Try.underlying55 Try.underlying37]
    rotate_left
    · simp
    · rfl
    simp only [List.nil_append, List.cons_append, Nat.reduceAdd]
    go_wp2_with fail
  go_ret
  exact ⟨rfl, rfl⟩
theorem look1_at {P : Program} {t kt et : TypeId} (ht : P.underlying t = some (.map kt et)) (hk : P.underlying kt = some (.int .u8)) (W : World) (n : Nat) (es : List MapEntry) (c : Nat) (hb : W.heap[n]? = some (.map es.toArray c)) (k : Int) (i : Nat) (v : Value)
    (hf : Instr.findNow (.int .u8) (.int .u8 k) es 0 = some (some (i, v))) :
    (Instr.lookup t (.map (some n)) (.int .u8 k) false).run P W = .ok v W := by
  simp [Instr.lookup, run_underlying ht, MapKept.run_getObj_map hb, chk hk, fnd hk _ _ _ _ hf]
theorem regP_nat {x : Int} (h : regP x = true) : ∃ d : Nat, x = d ∧ d < 16 := by
  have : 0 ≤ x ∧ x ≤ 15 := by simpa [regP] using h
  exact ⟨x.toNat, by omega, by omega⟩
theorem sized_ok {x : Int} (h : sizedP x = true) : okSz x = true := h
/-- What is told of the world behind an instruction. -/
def Did (pk : List Int) (f : Ins) (M : Nat) (r st : List Int) (pv : Value) (pc steps : Int) (w : World) (e : Ending) (w' : World) : Prop :=
  w.grownBy w' (some M) ∧ match stepP pk f r st pc with
    | .go r' st' pc' dn' => e = .returned (.tuple #[]) ∧ Bk w' M 53 (maV r' st' pv pc' steps dn')
    | .err x => e = thrown x ∧ Bk w' M 53 (maV r st pv pc steps false)
def DoesIs (f : Ins) : Prop :=
  ∃ j g, Instr.findNow (.int .u8) (.int .u8 f.op) doesEs 0 = some (some (j, .func (.func g) #[] #[])) ∧ (∀ args w, (callFunc g args).run Try.prog w = .ok (.enter g args) w) ∧
    ∀ (M : Nat) (r st : List Int) (A : Option Addr) (c : Nat) (pk : List Int) (B : Nat) (pc steps : Int) (w : World), Bk w M 53 (maV r st (.slice A pk.length c) pc steps false) → MaOk r st → Rd w B A c (u8s pk) → B ≤ w.heap.size → Bytes pk → pk.length ≤ 1000000 →
      Calls Try.prog g #[.pointer (some ⟨M, 0, none⟩), insA f] w (Did pk f M r st (.slice A pk.length c) pc steps w)
theorem getD_of {r : List Int} {a : Nat} {x : Int} (h : r[a]? = some x) : r.getD a 0 = x := by rw [List.getD_eq_getElem?_getD, h]; rfl
theorem does_is (f : Ins) (i n : Int) (h : oneP f i n = true) (hf : InsOk f) : DoesIs f := by
  by_cases h1 : f.op = 1
  · refine ⟨0, 25, by rw [h1]; rfl, enters_of Try.func25 (by kernel_rfl) rfl, ?_⟩
    intro M r st A c pk B pc steps w hM ho hpk hB hpb hpl
    have hr : regP f.d = true := by rw [one_set f i n h1] at h; simp at h; exact h.2
    obtain ⟨d, hd, hd'⟩ := regP_nat hr
    refine (m_set f M d r st _ pc steps false w hM ho (Lib.hid hd) hd').mono ?_
    rintro e w' ⟨he, hb, hg⟩
    refine ⟨hg, ?_⟩
    unfold stepP
    simp only [h1, hd, if_true, Int.toNat_natCast]
    exact ⟨he, hb⟩
  by_cases h2 : f.op = 2
  · refine ⟨1, 26, by rw [h2]; rfl, enters_of Try.func26 (by kernel_rfl) rfl, ?_⟩
    intro M r st A c pk B pc steps w hM ho hpk hB hpb hpl
    have hr : regP f.d = true ∧ regP f.a = true := by rw [one_move f i n h2] at h; simp at h; exact h.2
    obtain ⟨d, hd, hd'⟩ := regP_nat hr.1
    obtain ⟨a, ha, ha'⟩ := regP_nat hr.2
    obtain ⟨x, hx, _, _⟩ := ho.get a ha'
    refine (m_move f M d a r st _ pc steps false w hM ho x (Lib.hid hd) hd' (Lib.hid ha) hx).mono ?_
    rintro e w' ⟨he, hb, hg⟩
    refine ⟨hg, ?_⟩
    unfold stepP
    simp only [h2, hd, ha, Int.toNat_natCast, getD_of hx]
    exact ⟨he, hb⟩
  by_cases h3 : f.op = 3
  · refine ⟨2, 27, by rw [h3]; rfl, enters_of Try.func27 (by kernel_rfl) rfl, ?_⟩
    intro M r st A c pk B pc steps w hM ho hpk hB hpb hpl
    have hr : regP f.d = true ∧ regP f.a = true ∧ regP f.b = true := by rw [one_alu f i n h3] at h; simp at h; exact h.2.2.1
    obtain ⟨d, hd, hd'⟩ := regP_nat hr.1
    obtain ⟨a, ha, ha'⟩ := regP_nat hr.2.1
    obtain ⟨b, hb, hb'⟩ := regP_nat hr.2.2
    obtain ⟨x, hx, _, _⟩ := ho.get a ha'
    obtain ⟨y, hy, _, _⟩ := ho.get b hb'
    by_cases he : DoE f.nar f.what y = 0
    · refine (m_alu_ok f M d a b r st _ pc steps false w hM ho x y (Lib.hid ha) hx (Lib.hid hb) hy (Lib.hid hd) hd' (Lib.hid he)).mono ?_
      rintro e w' ⟨he', hb', hg⟩
      refine ⟨hg, ?_⟩
      unfold stepP
      simp only [h3, hd, ha, hb, Int.toNat_natCast, getD_of hx, getD_of hy, he]
      exact ⟨he', hb'⟩
    · refine (m_alu_err f M a b r st _ pc steps false w hM ho x y (Lib.hid ha) hx (Lib.hid hb) hy (Lib.hid (by simpa using he))).mono ?_
      rintro e w' ⟨he', hb', hg⟩
      refine ⟨hg, ?_⟩
      unfold stepP
      simp only [h3, hd, ha, hb, Int.toNat_natCast, getD_of hx, getD_of hy, if_neg he]
      exact ⟨he', hb'⟩
  by_cases h4 : f.op = 4
  · refine ⟨3, 28, by rw [h4]; rfl, enters_of Try.func28 (by kernel_rfl) rfl, ?_⟩
    intro M r st A c pk B pc steps w hM ho hpk hB hpb hpl
    have hr : (regP f.d = true ∧ regP f.a = true) ∧ sizedP f.size = true := by rw [one_load f i n (.inl h4)] at h; simp at h; exact h.2
    obtain ⟨d, hd, hd'⟩ := regP_nat hr.1.1
    obtain ⟨a, ha, ha'⟩ := regP_nat hr.1.2
    obtain ⟨x, hx, _, _⟩ := ho.get a ha'
    by_cases he : errOf pk.length (farP x f.n) f.size = 0
    · refine (m_load_ok f M d a r st _ pc steps false w hM ho x (Lib.hid ha) hx hf.n0 hf.n1 (Lib.hid hd) hd' A c pk B (Lib.hid rfl) hpk hB hpb hpl he).mono ?_
      rintro e w' ⟨he', hb', hg⟩
      refine ⟨hg, ?_⟩
      unfold stepP
      simp only [h4, hd, ha, Int.toNat_natCast, getD_of hx, he]
      exact ⟨he', hb'⟩
    · refine (m_load_err f M a r st _ pc steps false w hM ho x (Lib.hid ha) hx hf.n0 hf.n1 A c pk B (Lib.hid rfl) hpk hB hpb hpl (by simpa using he)).mono ?_
      rintro e w' ⟨he', hb', hg⟩
      refine ⟨hg, ?_⟩
      unfold stepP
      simp only [h4, hd, ha, Int.toNat_natCast, getD_of hx, if_neg he]
      exact ⟨he', hb'⟩
  by_cases h5 : f.op = 5
  · refine ⟨4, 29, by rw [h5]; rfl, enters_of Try.func29 (by kernel_rfl) rfl, ?_⟩
    intro M r st A c pk B pc steps w hM ho hpk hB hpb hpl
    have hr : (regP f.d = true ∧ regP f.a = true) ∧ sizedP f.size = true := by rw [one_load f i n (.inr h5)] at h; simp at h; exact h.2
    obtain ⟨d, hd, hd'⟩ := regP_nat hr.1.1
    obtain ⟨a, ha, ha'⟩ := regP_nat hr.1.2
    obtain ⟨x, hx, _, _⟩ := ho.get a ha'
    by_cases he : -512 ≤ farP x f.n ∧ farP x f.n ≤ -f.size
    · refine (m_read_ok f M d a r st _ pc steps false w hM ho x (Lib.hid ha) hx hf.n0 hf.n1 (Lib.hid (sized_ok hr.2)) (Lib.hid hd) hd' he.1 he.2).mono ?_
      rintro e w' ⟨he', hb', hg⟩
      refine ⟨hg, ?_⟩
      unfold stepP
      simp only [h5, hd, ha, Int.toNat_natCast, getD_of hx, if_pos he]
      exact ⟨he', hb'⟩
    · refine (m_read_err f M d a r st _ pc steps false w hM ho x (Lib.hid ha) hx hf.n0 hf.n1 (Lib.hid (sized_ok hr.2)) (Lib.hid hd) hd' he).mono ?_
      rintro e w' ⟨he', hb', hg⟩
      refine ⟨hg, ?_⟩
      unfold stepP
      simp only [h5, hd, ha, Int.toNat_natCast, getD_of hx, if_neg he]
      exact ⟨he', hb'⟩
  by_cases h6 : f.op = 6
  · refine ⟨5, 30, by rw [h6]; rfl, enters_of Try.func30 (by kernel_rfl) rfl, ?_⟩
    intro M r st A c pk B pc steps w hM ho hpk hB hpb hpl
    have hr : (regP f.a = true ∧ regP f.b = true) ∧ sizedP f.size = true := by rw [one_write f i n h6] at h; simp at h; exact h.2
    obtain ⟨a, ha, ha'⟩ := regP_nat hr.1.1
    obtain ⟨b, hb, hb'⟩ := regP_nat hr.1.2
    obtain ⟨x, hx, _, _⟩ := ho.get a ha'
    obtain ⟨y, hy, _, _⟩ := ho.get b hb'
    by_cases he : -512 ≤ farP x f.n ∧ farP x f.n ≤ -f.size
    · refine (m_write_ok f M a b r st _ pc steps false w hM ho x (Lib.hid ha) hx hf.n0 hf.n1 y (Lib.hid hb) hy (Lib.hid (sized_ok hr.2)) he.1 he.2).mono ?_
      rintro e w' ⟨he', hb', hg⟩
      refine ⟨hg, ?_⟩
      unfold stepP
      simp only [h6, ha, hb, Int.toNat_natCast, getD_of hx, getD_of hy, if_pos he]
      exact ⟨he', hb'⟩
    · refine (m_write_err f M a b r st _ pc steps false w hM ho x (Lib.hid ha) hx hf.n0 hf.n1 y (Lib.hid hb) hy (Lib.hid (sized_ok hr.2)) he).mono ?_
      rintro e w' ⟨he', hb', hg⟩
      refine ⟨hg, ?_⟩
      unfold stepP
      simp only [h6, ha, hb, Int.toNat_natCast, getD_of hx, getD_of hy, if_neg he]
      exact ⟨he', hb'⟩
  by_cases h7 : f.op = 7
  · refine ⟨6, 31, by rw [h7]; rfl, enters_of Try.func31 (by kernel_rfl) rfl, ?_⟩
    intro M r st A c pk B pc steps w hM ho hpk hB hpb hpl
    refine (m_jump f M r st _ pc steps false w hM ho).mono ?_
    rintro e w' ⟨he, hb, hg⟩
    refine ⟨hg, ?_⟩
    unfold stepP
    simp only [h7]
    exact ⟨he, hb⟩
  by_cases h8 : f.op = 8
  · refine ⟨7, 32, by rw [h8]; rfl, enters_of Try.func32 (by kernel_rfl) rfl, ?_⟩
    intro M r st A c pk B pc steps w hM ho hpk hB hpb hpl
    have hr : regP f.a = true ∧ regP f.b = true := by rw [one_ask f i n h8] at h; simp at h; exact h.2.2.1
    obtain ⟨a, ha, ha'⟩ := regP_nat hr.1
    obtain ⟨b, hb, hb'⟩ := regP_nat hr.2
    obtain ⟨x, hx, _, _⟩ := ho.get a ha'
    obtain ⟨y, hy, _, _⟩ := ho.get b hb'
    cases he : IsV f.nar f.what x y with
    | true =>
      refine (m_ask_t f M a b r st _ pc steps false w hM ho x y (Lib.hid ha) hx (Lib.hid hb) hy hf.w0 (Lib.hid he)).mono ?_
      rintro e w' ⟨he', hb', hg⟩
      refine ⟨hg, ?_⟩
      unfold stepP
      simp only [h8, ha, hb, Int.toNat_natCast, getD_of hx, getD_of hy, he]
      exact ⟨he', hb'⟩
    | false =>
      refine (m_ask_f f M a b r st _ pc steps false w hM ho x y (Lib.hid ha) hx (Lib.hid hb) hy hf.w0 (Lib.hid he)).mono ?_
      rintro e w' ⟨he', hb', hg⟩
      refine ⟨hg, ?_⟩
      unfold stepP
      simp only [h8, ha, hb, Int.toNat_natCast, getD_of hx, getD_of hy, he]
      exact ⟨he', hb'⟩
  by_cases h9 : f.op = 9
  · refine ⟨8, 33, by rw [h9]; rfl, enters_of Try.func33 (by kernel_rfl) rfl, ?_⟩
    intro M r st A c pk B pc steps w hM ho hpk hB hpb hpl
    refine (m_end f M r st _ pc steps false w hM ho).mono ?_
    rintro e w' ⟨he, hb, hg⟩
    refine ⟨hg, ?_⟩
    unfold stepP
    simp only [h9]
    exact ⟨he, hb⟩
  rw [one_none f i n h1 h2 h3 h4 h5 h6 h7 h8 h9] at h
  cases h
end Go.Proofs.Ytbfegghkipoppaa
namespace Go.Proofs.Ytbfegghkipoppaa
open Go.RowKit Go.Shelf
set_option linter.unusedVariables false
set_option maxRecDepth 100000

theorem opV64_range (i : Nat) (a b : Int) (ha0 : 0 ≤ a) (ha1 : a ≤ 18446744073709551615) (hb0 : 0 ≤ b) (hb1 : b ≤ 18446744073709551615) : 0 ≤ opV .u64 .i64 64 i a b ∧ opV .u64 .i64 64 i a b ≤ 18446744073709551615 := by
  unfold opV
  split
  all_goals first
    | exact wrap_u64_range _
    | exact div_range _ _ _ ha0 ha1 hb0
    | exact mod_range _ _ _ ha0 ha1 hb0
    | exact div_pow_range _ _ _ ha0 ha1
    | exact ⟨hb0, hb1⟩
    | (unfold bits; exact wrap_u64_range _)
    | exact ⟨by omega, by omega⟩
theorem DoV_range (nar : Bool) (op a b : Int) (ha0 : 0 ≤ a) (ha1 : a ≤ 18446744073709551615) (hb0 : 0 ≤ b) (hb1 : b ≤ 18446744073709551615) : 0 ≤ DoV nar op a b ∧ DoV nar op a b ≤ 18446744073709551615 := by
  unfold DoV
  split
  · have := dVal32_range op (a % 4294967296) (b % 4294967296) (by omega) (by omega) (by omega) (by omega)
    omega
  · unfold dVal
    split
    · exact opV64_range _ _ _ ha0 ha1 hb0 hb1
    · omega
theorem getR_range (xs : List Int) (t s : Int) (h : Bytes xs) : 0 ≤ getR xs t s ∧ getR xs t s ≤ 18446744073709551615 := by
  unfold getR
  split
  · rename_i he
    rcases err_cases xs.length t s with ⟨hs, h0, h1, _⟩ | h'
    · have hb := getN_bound h t.toNat s.toNat
      have hs8 : s = 1 ∨ s = 2 ∨ s = 4 ∨ s = 8 := place_size s hs
      have hp : (256 : Int) ^ s.toNat ≤ 18446744073709551616 := by rcases hs8 with rfl | rfl | rfl | rfl <;> decide
      omega
    · exact absurd he h'
  · omega
theorem setA_bytes (xs : List Int) (n : Nat) (t s v : Int) (h : Bytes xs) : Bytes (setA xs n t s v) := by
  unfold setA
  split
  · intro x hx
    unfold setN at hx
    rw [List.mem_mapIdx] at hx
    obtain ⟨i, hi, rfl⟩ := hx
    split
    · constructor
      · exact Int.emod_nonneg _ (by omega)
      · exact Int.emod_lt_of_pos _ (by omega)
    · exact h _ (List.getElem_mem _)
  · exact h
/-- What an instruction that goes on leaves. -/
theorem step_go (pk : List Int) (f : Ins) (r st : List Int) (pc n : Nat) (r' st' : List Int) (pc' : Int) (dn' : Bool) (hs : stepP pk f r st ((pc : Int) + 1) = .go r' st' pc' dn') (h1 : oneP f pc n = true) (hf : InsOk f) (ho : MaOk r st) (hp : Bytes pk) :
    MaOk r' st' ∧ ∃ q : Nat, pc' = q ∧ pc < q ∧ (dn' = true → q = pc + 1 ∧ f.op = 9) ∧ (dn' = false → f.op ≠ 9 ∧ (q = pc + 1 ∨ q < n)) := by
  have gx : ∀ a : Int, 0 ≤ r.getD a.toNat 0 ∧ r.getD a.toNat 0 ≤ 18446744073709551615 := by
    intro a
    rw [List.getD_eq_getElem?_getD]
    cases hx : r[a.toNat]? with
    | none => simp
    | some x => exact ho.rb x (List.mem_of_getElem? hx)
  have hA := gx f.a
  have hB := gx f.b
  unfold stepP at hs
  by_cases e1 : f.op = 1
  · simp only [e1, if_true] at hs
    injection hs with a b c d; subst a b c d
    exact ⟨ho.set _ _ hf.n0 hf.n1, pc + 1, by omega, by omega, fun h => (by cases h), fun _ => ⟨by omega, .inl rfl⟩⟩
  by_cases e2 : f.op = 2
  · simp only [if_neg e1, if_pos e2] at hs
    injection hs with a b c d; subst a b c d
    exact ⟨ho.set _ _ hA.1 hA.2, pc + 1, by omega, by omega, fun h => (by cases h), fun _ => ⟨by omega, .inl rfl⟩⟩
  by_cases e3 : f.op = 3
  · simp only [if_neg e1, if_neg e2, if_pos e3] at hs
    split at hs
    · injection hs with a b c d; subst a b c d
      have := DoV_range f.nar f.what _ _ hA.1 hA.2 hB.1 hB.2
      exact ⟨ho.set _ _ this.1 this.2, pc + 1, by omega, by omega, fun h => (by cases h), fun _ => ⟨by omega, .inl rfl⟩⟩
    · cases hs
  by_cases e4 : f.op = 4
  · simp only [if_neg e1, if_neg e2, if_neg e3, if_pos e4] at hs
    split at hs
    · injection hs with a b c d; subst a b c d
      have := getR_range pk (farP (r.getD f.a.toNat 0) f.n) f.size hp
      exact ⟨ho.set _ _ this.1 this.2, pc + 1, by omega, by omega, fun h => (by cases h), fun _ => ⟨by omega, .inl rfl⟩⟩
    · cases hs
  by_cases e5 : f.op = 5
  · simp only [if_neg e1, if_neg e2, if_neg e3, if_neg e4, if_pos e5] at hs
    split at hs
    · injection hs with a b c d; subst a b c d
      have := getR_range st (farP (r.getD f.a.toNat 0) f.n + 512) f.size ho.sb
      exact ⟨ho.set _ _ this.1 this.2, pc + 1, by omega, by omega, fun h => (by cases h), fun _ => ⟨by omega, .inl rfl⟩⟩
    · cases hs
  by_cases e6 : f.op = 6
  · simp only [if_neg e1, if_neg e2, if_neg e3, if_neg e4, if_neg e5, if_pos e6] at hs
    split at hs
    · injection hs with a b c d; subst a b c d
      exact ⟨⟨ho.rl, by rw [setA_len]; exact ho.sl, ho.rb, setA_bytes _ _ _ _ _ ho.sb⟩, pc + 1, by omega, by omega, fun h => (by cases h), fun _ => ⟨by omega, .inl rfl⟩⟩
    · cases hs
  by_cases e7 : f.op = 7
  · simp only [if_neg e1, if_neg e2, if_neg e3, if_neg e4, if_neg e5, if_neg e6, if_pos e7] at hs
    injection hs with a b c d; subst a b c d
    rw [one_jump f _ _ e7] at h1
    simp at h1
    exact ⟨ho, f.to.toNat, by omega, by omega, fun h => (by cases h), fun _ => ⟨by omega, .inr (by omega)⟩⟩
  by_cases e8 : f.op = 8
  · simp only [if_neg e1, if_neg e2, if_neg e3, if_neg e4, if_neg e5, if_neg e6, if_neg e7, if_pos e8] at hs
    rw [one_ask f _ _ e8] at h1
    simp at h1
    split at hs
    · injection hs with a b c d; subst a b c d
      exact ⟨ho, f.to.toNat, by omega, by omega, fun h => (by cases h), fun _ => ⟨by omega, .inr (by omega)⟩⟩
    · injection hs with a b c d; subst a b c d
      exact ⟨ho, pc + 1, by omega, by omega, fun h => (by cases h), fun _ => ⟨by omega, .inl rfl⟩⟩
  · simp only [if_neg e1, if_neg e2, if_neg e3, if_neg e4, if_neg e5, if_neg e6, if_neg e7, if_neg e8] at hs
    injection hs with a b c d; subst a b c d
    have e9 : f.op = 9 := by
      by_cases e9 : f.op = 9
      · exact e9
      · rw [one_none f _ _ e1 e2 e3 e4 e5 e6 e7 e8 e9] at h1; cases h1
    exact ⟨ho, pc + 1, by omega, by omega, fun _ => ⟨rfl, e9⟩, fun h => (by cases h)⟩
/-- A fault is none that is 0. -/
theorem step_err (pk : List Int) (f : Ins) (r st : List Int) (pc e : Int) (hs : stepP pk f r st pc = .err e) : e ≠ 0 := by
  unfold stepP at hs
  dsimp only at hs
  repeat' split at hs
  all_goals first
    | (injection hs with hs; subst hs; first | assumption | omega)
    | cases hs
theorem last_end (xs : List Ins) (h : rightP xs = true) (f : Ins) (hf : xs[xs.length - 1]? = some f) : f.op = 9 := by
  unfold rightP at h
  rw [List.getLast?_eq_getElem?, hf] at h
  simp at h
  exact h.2.1
theorem right_one (xs : List Ins) (h : rightP xs = true) (k : Nat) (f : Ins) (hf : xs[k]? = some f) : oneP f k xs.length = true := by
  unfold rightP at h
  simp only [Bool.and_eq_true, List.all_eq_true] at h
  have := h.2.2 k (List.mem_range.2 (List.getElem?_eq_some_iff.1 hf).1)
  rwa [List.getD_eq_getElem?_getD, hf] at this
end Go.Proofs.Ytbfegghkipoppaa
namespace Go.Proofs.Ytbfegghkipoppaa
open Go.RowKit Go.Shelf
set_option linter.unusedVariables false
set_option maxRecDepth 100000

theorem run_idle (a b c : Addr) (w : World) :
    CallsD Try.prog 19 #[.pointer (some a), .pointer (some b), .pointer (some c)] .returning w fun e u' w' => e = .returned (.tuple #[]) ∧ u' = .returning ∧ w' = w := by
  refine callsD_of_wpS Try.func19 rfl fun c₀ cs hu => ?_
  apply wpS_seq
  apply wpS_region
  simp [wpOpsS, go_sem, recoverD, hu, Try.ntmps19, Exit.thenS]
  refine wpS_of_wp ?_
  simp [Array.replicate]
  go_wp2
  cases c₀
  simp_all [bodyPostS, results, Try.results19]
def outV (e pc v s : Int) : List Value := [.int .i64 e, .int .i64 pc, .int .u64 v, .int .i64 s]
set_option maxHeartbeats 1000000 in
theorem run_caught (N P R M : Nat) (x now steps : Int) (r st : List Int) (pv : Value) (pc : Int) (dn : Bool) (w : World) (hN : Bk w N 3 [.int .i64 now]) (hP : Bk w P 48 [.pointer (some ⟨M, 0, none⟩)]) (hR : Bk w R 30 (outV 0 0 0 0))
    (hM : Bk w M 53 (maV r st pv pc steps dn)) (ho : MaOk r st) (hNR : N ≠ R) (hPR : P ≠ R) (hMR : M ≠ R) :
    CallsD Try.prog 19 #[.pointer (some ⟨N, 0, none⟩), .pointer (some ⟨P, 0, none⟩), .pointer (some ⟨R, 0, none⟩)] (.panicking [{ v := .iface 27 (.int .i64 x), recovered := false }]) w fun e u' w' =>
      e = .returned (.tuple #[]) ∧ u' = .panicking [{ v := .iface 27 (.int .i64 x), recovered := true }] ∧ Bk w' R 30 (outV x now 0 steps) ∧ w.grownBy w' (some R) := by
  have cN := hN.cell 0
  have cP := hP.cell 0
  have cR0 := hR.cell 0
  have cR1 := hR.cell 1
  have cR2 := hR.cell 2
  have cR3 := hR.cell 3
  have fR0 := hR.frozen 0
  have fR1 := hR.frozen 1
  have fR2 := hR.frozen 2
  have fR3 := hR.frozen 3
  have cS := hM.cell 530
  rw [ma_tail r st pv pc steps dn ho.rl ho.sl 2] at cS
  simp only [outV, List.getElem?_cons_zero, List.getElem?_cons_succ] at cN cP cR0 cR1 cR2 cR3 cS
  have HR := Lib.hid hR
  clear hN hP hR hM ho
  refine callsD_of_wpS Try.func19 rfl fun c₀ cs hu => ?_
  apply wpS_seq
  apply wpS_region
  simp [wpOpsS, go_sem, recoverD, hu, Try.ntmps19, Exit.thenS]
  refine wpS_of_wp ?_
  simp [Array.replicate]
  have hta : ∀ (w : World) (x : Int), (Instr.typeAssert (.iface 27 (.int .i64 x)) 20 27 true).run Try.prog w = .ok (.tuple #[.int .i64 x, .bool true]) w := fun _ _ => by kernel_rfl
  go_wp2
  go_still_tail 7, (by kernel_rfl)
  go_wp2
  cases c₀
  simp_all [bodyPostS, results, Try.results19]
  have h := (((HR.out.set 0 (.int .i64 x)).set 1 (.int .i64 now)).set 2 (.int .u64 0)).set 3 (.int .i64 steps)
  simp only [outV, List.set_cons_zero, List.set_cons_succ] at h
  have g1 := gr_set (World.grownBy.refl w (some R)) (p := ⟨R, 0, none⟩) rfl (.int .i64 x)
  have g2 := gr_set g1 (p := ⟨R, 1, none⟩) rfl (.int .i64 now)
  have g3 := gr_set g2 (p := ⟨R, 2, none⟩) rfl (.int .u64 0)
  have g4 := gr_set g3 (p := ⟨R, 3, none⟩) rfl (.int .i64 steps)
  exact ⟨Bk.drew h, gr_drew g4⟩
end Go.Proofs.Ytbfegghkipoppaa
namespace Go.Proofs.Ytbfegghkipoppaa
open Go.RowKit Go.Shelf
set_option linter.unusedVariables false
set_option maxRecDepth 100000

/-- What is told of a run. -/
structure Out where
  err : Int
  pc : Int
  v : Int
  steps : Int
  deriving DecidableEq
def outA (o : Out) : Value := .agg (outV o.err o.pc o.v o.steps).toArray
/-- A run, from a place on, of so many instructions at most. -/
def runP (pk : List Int) (l : List Ins) : Nat → List Int → List Int → Nat → Int → Out
  | 0, _, _, _, _ => ⟨0, 0, 0, 0⟩
  | n + 1, r, st, pc, steps =>
    match stepP pk (l.getD pc default) r st (pc + 1) with
    | .err e => ⟨e, pc, 0, steps + 1⟩
    | .go r' st' pc' dn => if dn then ⟨0, 0, r'.getD (l.getD pc default).a.toNat 0, steps + 1⟩ else runP pk l n r' st' pc'.toNat (steps + 1)
def r0 (n : Nat) : List Int := (List.replicate 16 0).set 2 n
def st0 : List Int := List.replicate 512 0
def doP (pk : List Int) (l : List Ins) : Out := if rightP l then (if 65535 < pk.length then ⟨3, 0, 0, 0⟩ else runP pk l l.length (r0 pk.length) st0 0 0) else ⟨4, 0, 0, 0⟩
def maC (v : Value) : Array Value := (maV (List.replicate 16 0) (List.replicate 512 0) v 0 0 false).toArray
theorem ma_built (A : Option Addr) (n c : Nat) : Try.prog.built 53 [(2, .slice A n c)] = some (maC (.slice A n c)) := by kernel_rfl
theorem Inss.keep {w w' : World} {K K' : Nat → Prop} {A : Option Addr} {c : Nat} {xs : List Ins} (h : Inss w K A c xs) (hk : ∀ b, K b → w'.heap[b]? = w.heap[b]?) (hK : ∀ b, K b → K' b) : Inss w' K' A c xs := by
  obtain ⟨h1, h2, h3, h4⟩ := h
  refine ⟨h1, h2, h3, fun hx => ?_⟩
  obtain ⟨a, e, hb, hc⟩ := h4 hx
  exact ⟨a, e, hK _ hb, fun i x hi j hj => (World.cell?_of_block (by rw [add_blk, add_blk]; exact hk _ hb)).trans (hc i x hi j hj)⟩
theorem Inss.alloc {w : World} {A : Option Addr} {c : Nat} {xs : List Ins} (h : Inss w (fun b => b < w.heap.size) A c xs) (o : Obj) : Inss (w.alloc o) (fun b => b < (w.alloc o).heap.size) A c xs :=
  h.keep (fun b hb => Below.heap_alloc w o b hb) (fun b hb => by simp; omega)
theorem Inss.below {w w' : World} {A : Option Addr} {c : Nat} {xs : List Ins} (h : Inss w (fun b => b < w.heap.size) A c xs) (hb : Below w.heap.size w w') : Inss w' (fun b => b < w'.heap.size) A c xs :=
  h.keep (fun b hb' => hb.block b hb') (fun b hb' => Nat.lt_of_lt_of_le hb' hb.size)
theorem leave_out (R : Nat) (o : Out) (tmps : Array Value) (W : World) (hR : Bk W R 30 (outV o.err o.pc o.v o.steps)) (ht : tmps.getD 4 undef = .pointer (some ⟨R, 0, none⟩)) : (results Try.f9 tmps).run Try.prog W = .ok (outA o) W := by
  have c0 := hR.cell 0
  have c1 := hR.cell 1
  have c2 := hR.cell 2
  have c3 := hR.cell 3
  simp only [outV, List.getElem?_cons_zero, List.getElem?_cons_succ] at c0 c1 c2 c3
  have ht' : tmps[4]?.getD undef = .pointer (some ⟨R, 0, none⟩) := by simpa using ht
  simp [results, Try.results9, go_sem, ht', c0, c1, c2, c3, outA, outV]
theorem put_out {W : World} {R : Nat} (h : Bk W R 30 (outV 0 0 0 0)) (e pc v s : Int) : Bk ((((W.setCell ⟨R, 0, none⟩ (.int .i64 e)).setCell ⟨R, 1, none⟩ (.int .i64 pc)).setCell ⟨R, 2, none⟩ (.int .u64 v)).setCell ⟨R, 3, none⟩ (.int .i64 s)) R 30 (outV e pc v s) := by
  have h' := (((h.set 0 (.int .i64 e)).set 1 (.int .i64 pc)).set 2 (.int .u64 v)).set 3 (.int .i64 s)
  simp only [outV, List.set_cons_zero, List.set_cons_succ] at h'
  exact h'
theorem put_gr (W : World) (R : Nat) (e pc v s : Int) : W.grownBy ((((W.setCell ⟨R, 0, none⟩ (.int .i64 e)).setCell ⟨R, 1, none⟩ (.int .i64 pc)).setCell ⟨R, 2, none⟩ (.int .u64 v)).setCell ⟨R, 3, none⟩ (.int .i64 s)) (some R) := by
  have g1 := gr_set (World.grownBy.refl W (some R)) (p := ⟨R, 0, none⟩) rfl (.int .i64 e)
  have g2 := gr_set g1 (p := ⟨R, 1, none⟩) rfl (.int .i64 pc)
  have g3 := gr_set g2 (p := ⟨R, 2, none⟩) rfl (.int .u64 v)
  exact gr_set g3 (p := ⟨R, 3, none⟩) rfl (.int .i64 s)
theorem do_f (A : Option Addr) (c : Nat) (xs : List Ins) (P : Option Addr) (d : Nat) (pk : List Int) (w : World) (hI : Inss w (fun b => b < w.heap.size) A c xs) (hr : Hid (rightP xs = false)) :
    Calls Try.prog 9 #[.slice A xs.length c, .slice P pk.length d] w fun e w' => e = .returned (outA (doP pk xs)) ∧ Below w.heap.size w w' := by
  have HO : Hid (doP pk xs = ⟨4, 0, 0, 0⟩) := Lib.hid (by unfold doP; rw [hr.out]; rfl)
  go_enter_defers Try.func9, Try.ntmps9
  go_wp2_with fail
  refine (right_any A c xs _ (hI.alloc _)).mono ?_
  rintro _ w1 ⟨rfl, hb⟩
  rw [hr.out]
  have hz := hb.size
  simp at hz
  have HR : Hid (Bk w1 w.heap.size 30 (outV 0 0 0 0)) := Lib.hid ((Bk.new w 30 (outV 0 0 0 0)).below hb (by simp))
  have cR0 := HR.out.cell 0
  have cR1 := HR.out.cell 1
  have cR2 := HR.out.cell 2
  have cR3 := HR.out.cell 3
  have fR0 := HR.out.frozen 0
  have fR1 := HR.out.frozen 1
  have fR2 := HR.out.frozen 2
  have fR3 := HR.out.frozen 3
  simp only [outV, List.getElem?_cons_zero, List.getElem?_cons_succ] at cR0 cR1 cR2 cR3
  have HB := Lib.hid hb
  clear hb
  go_wp2_with fail
  refine ⟨outA ⟨4, 0, 0, 0⟩, leave_out w.heap.size ⟨4, 0, 0, 0⟩ _ _ (put_out HR.out 4 0 0 0) rfl, by rw [HO.out], ?_⟩
  exact ((((Below.refl _ _).alloc (Nat.le_refl _) _).trans (HB.out.mono (by simp)))).grown (put_gr w1 w.heap.size 4 0 0 0) (by omega) (fun k e => by injection e with e; omega)
theorem do_l (A : Option Addr) (c : Nat) (xs : List Ins) (P : Option Addr) (d : Nat) (pk : List Int) (w : World) (hI : Inss w (fun b => b < w.heap.size) A c xs) (hr : Hid (rightP xs = true)) (hl : 65535 < pk.length) (hl2 : pk.length ≤ 1000000) :
    Calls Try.prog 9 #[.slice A xs.length c, .slice P pk.length d] w fun e w' => e = .returned (outA (doP pk xs)) ∧ Below w.heap.size w w' := by
  have HO : Hid (doP pk xs = ⟨3, 0, 0, 0⟩) := Lib.hid (by unfold doP; rw [hr.out, if_pos rfl, if_pos hl])
  go_enter_defers Try.func9, Try.ntmps9
  go_wp2_with fail
  refine (right_any A c xs _ (hI.alloc _)).mono ?_
  rintro _ w1 ⟨rfl, hb⟩
  rw [hr.out]
  have hz := hb.size
  simp at hz
  have HR : Hid (Bk w1 w.heap.size 30 (outV 0 0 0 0)) := Lib.hid ((Bk.new w 30 (outV 0 0 0 0)).below hb (by simp))
  have cR0 := HR.out.cell 0
  have cR1 := HR.out.cell 1
  have cR2 := HR.out.cell 2
  have cR3 := HR.out.cell 3
  have fR0 := HR.out.frozen 0
  have fR1 := HR.out.frozen 1
  have fR2 := HR.out.frozen 2
  have fR3 := HR.out.frozen 3
  simp only [outV, List.getElem?_cons_zero, List.getElem?_cons_succ] at cR0 cR1 cR2 cR3
  have HB := Lib.hid hb
  clear hb
  have dl : decide ((65535 : Int) < (pk.length : Int)) = true := decide_eq_true (by omega)
  go_wp2_with fail
  refine ⟨outA ⟨3, 0, 0, 0⟩, leave_out w.heap.size ⟨3, 0, 0, 0⟩ _ _ (put_out HR.out 3 0 0 0) rfl, by rw [HO.out], ?_⟩
  exact ((((Below.refl _ _).alloc (Nat.le_refl _) _).trans (HB.out.mono (by simp)))).grown (put_gr w1 w.heap.size 3 0 0 0) (by omega) (fun k e => by injection e with e; omega)
theorem ma_zero (v u : Value) : ((Try.zeroCells53.setIfInBounds 528 v).setIfInBounds 2 u) = (((List.replicate 16 0).map (Value.int .u64)).set 2 u ++ u8s st0 ++ [v, .int .i64 0, .int .i64 0, .bool false]).toArray := by kernel_rfl
theorem do_start (P : Option Addr) (d : Nat) (pk : List Int) (w w1 w2 : World) (hz : w.heap.size + 1 ≤ w1.heap.size) (hB : Below (w.alloc (.cells #[.int .i64 0, .int .i64 0, .int .u64 0, .int .i64 0] 30)).heap.size (w.alloc (.cells #[.int .i64 0, .int .i64 0, .int .u64 0, .int .i64 0] 30)) w1)
    (hR : Bk w1 w.heap.size 30 (outV 0 0 0 0))
    (hw2 : w2 = (((w1.alloc (.cells ((Try.zeroCells53.setIfInBounds 528 (.slice P pk.length d)).setIfInBounds 2 (.int .u64 pk.length)) 53)).alloc (.cells #[.pointer (some ⟨w1.heap.size, 0, none⟩)] 48)).alloc (.cells #[.int .i64 0] 3)).alloc (.map doesEs.toArray 9)) :
    Below w.heap.size w w2 ∧ Bk w2 w1.heap.size 53 (maV (r0 pk.length) st0 (.slice P pk.length d) 0 0 false) ∧ Bk w2 (w1.heap.size + 1) 48 [.pointer (some ⟨w1.heap.size, 0, none⟩)] ∧ Bk w2 (w1.heap.size + 1 + 1) 3 [.int .i64 0] ∧ Bk w2 w.heap.size 30 (outV 0 0 0 0) ∧
      w2.heap[w1.heap.size + 1 + 1 + 1]? = some (.map doesEs.toArray 9) ∧ w2.heap.size = w1.heap.size + 1 + 1 + 1 + 1 := by
  have e : ((Try.zeroCells53.setIfInBounds 528 (.slice P pk.length d)).setIfInBounds 2 (.int .u64 pk.length)) = (maV (r0 pk.length) st0 (.slice P pk.length d) 0 0 false).toArray := by
    rw [ma_zero]; unfold maV r0; rw [List.map_set]
  rw [e] at hw2
  have h0 := Bk.new w1 53 (maV (r0 pk.length) st0 (.slice P pk.length d) 0 0 false)
  have hR0 := hR.alloc (.cells (maV (r0 pk.length) st0 (.slice P pk.length d) 0 0 false).toArray 53)
  have hs : (w1.alloc (.cells (maV (r0 pk.length) st0 (.slice P pk.length d) 0 0 false).toArray 53)).heap.size = w1.heap.size + 1 := by simp
  have hB1 : Below w.heap.size w (w1.alloc (.cells (maV (r0 pk.length) st0 (.slice P pk.length d) 0 0 false).toArray 53)) := (((Below.refl _ _).alloc (Nat.le_refl _) _).trans (hB.mono (by simp))).alloc (by omega) _
  clear hB hR
  generalize w1.alloc (.cells (maV (r0 pk.length) st0 (.slice P pk.length d) 0 0 false).toArray 53) = wa at h0 hR0 hw2 hs hB1
  subst hw2
  rw [← hs]
  have hP0 := Bk.new wa 48 [.pointer (some ⟨w1.heap.size, 0, none⟩)]
  have hN0 := Bk.new (wa.alloc (.cells #[.pointer (some ⟨w1.heap.size, 0, none⟩)] 48)) 3 [.int .i64 0]
  rw [World.size_alloc] at hN0
  have hD0 := heap_alloc_new ((wa.alloc (.cells #[.pointer (some ⟨w1.heap.size, 0, none⟩)] 48)).alloc (.cells #[.int .i64 0] 3)) (.map doesEs.toArray 9)
  rw [World.size_alloc, World.size_alloc] at hD0
  exact ⟨((hB1.alloc (by omega) _).alloc (by simp; omega) _).alloc (by simp; omega) _, (((h0.alloc _).alloc _).alloc _), ((hP0.alloc _).alloc _), hN0.alloc _, (((hR0.alloc _).alloc _).alloc _), hD0, by simp⟩
theorem right_len (xs : List Ins) (h : rightP xs = true) : 1 ≤ xs.length ∧ xs.length ≤ 16384 := by
  unfold rightP at h
  simp at h
  exact ⟨by omega, h.1.2⟩
/-- The state at a round's head. -/
def RunSt (pk : List Int) (xs : List Ins) (Z : Out) (pv : Value) (M R : Nat) (w : World) (k : Nat) (wr : World) : Prop :=
  ∃ (r st : List Int) (pc : Nat) (steps : Int) (now : Nat) (dn : Bool), Bk wr M 53 (maV r st pv pc steps dn) ∧ MaOk r st ∧ Bk wr (M + 1) 48 [.pointer (some ⟨M, 0, none⟩)] ∧ Bk wr (M + 1 + 1) 3 [.int .i64 now] ∧ Bk wr R 30 (outV 0 0 0 0) ∧
    wr.heap[M + 1 + 1 + 1]? = some (.map doesEs.toArray 9) ∧ Below w.heap.size w wr ∧ k + pc = xs.length + 1 ∧ 0 ≤ steps ∧ steps ≤ pc ∧
    ((dn = false ∧ pc < xs.length ∧ Z = runP pk xs (xs.length - steps.toNat) r st pc steps) ∨ (dn = true ∧ now < xs.length ∧ Z = ⟨0, 0, r.getD (xs.getD now default).a.toNat 0, steps⟩))
theorem ok0 (n : Nat) (h : n ≤ 65535) : MaOk (r0 n) st0 := by
  refine ⟨by simp [r0], by simp [st0], fun x hx => ?_, fun x hx => ?_⟩
  · rcases List.mem_or_eq_of_mem_set hx with h' | h'
    · rw [List.eq_of_mem_replicate h']; omega
    · subst h'; omega
  · rw [List.eq_of_mem_replicate hx]; omega
theorem start_st (pk : List Int) (xs : List Ins) (Z : Out) (pv : Value) (M R : Nat) (w w2 : World) (hM2 : Bk w2 M 53 (maV (r0 pk.length) st0 pv 0 0 false)) (hP2 : Bk w2 (M + 1) 48 [.pointer (some ⟨M, 0, none⟩)]) (hN2 : Bk w2 (M + 1 + 1) 3 [.int .i64 0]) (hR2 : Bk w2 R 30 (outV 0 0 0 0))
    (hD2 : w2.heap[M + 1 + 1 + 1]? = some (.map doesEs.toArray 9)) (hB : Below w.heap.size w w2) (hk : 1 ≤ xs.length ∧ xs.length ≤ 16384) (hZ : Z = runP pk xs xs.length (r0 pk.length) st0 0 0) (hl : pk.length ≤ 65535) : RunSt pk xs Z pv M R w (xs.length + 1) w2 :=
  ⟨r0 pk.length, st0, 0, 0, 0, false, hM2, ok0 _ hl, hP2, hN2, hR2, hD2, hB, by omega, by omega, by omega, .inl ⟨rfl, by omega, hZ⟩⟩
theorem mid_st {wr w : World} {M R : Nat} {r st : List Int} {pv : Value} {pc : Nat} {steps : Int} {now : Nat} (hM : Bk wr M 53 (maV r st pv pc steps false)) (ho : MaOk r st) (hP : Bk wr (M + 1) 48 [.pointer (some ⟨M, 0, none⟩)]) (hN : Bk wr (M + 1 + 1) 3 [.int .i64 now]) (hR : Bk wr R 30 (outV 0 0 0 0))
    (hD : wr.heap[M + 1 + 1 + 1]? = some (.map doesEs.toArray 9)) (hB : Below w.heap.size w wr) (hRM : w.heap.size ≤ R ∧ R < M) :
    Bk (((wr.setCell ⟨M + 1 + 1, 0, none⟩ (.int .i64 pc)).setCell ⟨M, 529, none⟩ (.int .i64 ((pc : Int) + 1))).setCell ⟨M, 530, none⟩ (.int .i64 (steps + 1))) M 53 (maV r st pv ((pc : Int) + 1) (steps + 1) false) ∧
    Bk (((wr.setCell ⟨M + 1 + 1, 0, none⟩ (.int .i64 pc)).setCell ⟨M, 529, none⟩ (.int .i64 ((pc : Int) + 1))).setCell ⟨M, 530, none⟩ (.int .i64 (steps + 1))) (M + 1) 48 [.pointer (some ⟨M, 0, none⟩)] ∧
    Bk (((wr.setCell ⟨M + 1 + 1, 0, none⟩ (.int .i64 pc)).setCell ⟨M, 529, none⟩ (.int .i64 ((pc : Int) + 1))).setCell ⟨M, 530, none⟩ (.int .i64 (steps + 1))) (M + 1 + 1) 3 [.int .i64 pc] ∧
    Bk (((wr.setCell ⟨M + 1 + 1, 0, none⟩ (.int .i64 pc)).setCell ⟨M, 529, none⟩ (.int .i64 ((pc : Int) + 1))).setCell ⟨M, 530, none⟩ (.int .i64 (steps + 1))) R 30 (outV 0 0 0 0) ∧
    (((wr.setCell ⟨M + 1 + 1, 0, none⟩ (.int .i64 pc)).setCell ⟨M, 529, none⟩ (.int .i64 ((pc : Int) + 1))).setCell ⟨M, 530, none⟩ (.int .i64 (steps + 1))).heap[M + 1 + 1 + 1]? = some (.map doesEs.toArray 9) ∧
    Below w.heap.size w (((wr.setCell ⟨M + 1 + 1, 0, none⟩ (.int .i64 pc)).setCell ⟨M, 529, none⟩ (.int .i64 ((pc : Int) + 1))).setCell ⟨M, 530, none⟩ (.int .i64 (steps + 1))) := by
  refine ⟨?_, ?_, ?_, ?_, ?_, ?_⟩
  · have h := ((hM.far (p := ⟨M + 1 + 1, 0, none⟩) (by simp; omega) (.int .i64 pc)).set 529 (.int .i64 ((pc : Int) + 1))).set 530 (.int .i64 (steps + 1))
    rw [ma_set_pc _ _ _ _ _ _ ho.rl ho.sl, ma_set_steps _ _ _ _ _ _ ho.rl ho.sl] at h
    exact h
  · exact ((hP.far (by simp) _).far (by simp) _).far (by simp) _
  · exact ((hN.set 0 _).far (by simp; omega) _).far (by simp; omega) _
  · exact ((hR.far (by simp; omega) _).far (by simp; omega) _).far (by simp; omega) _
  · rw [Below.heap_setCell _ _ _ _ (by simp; omega), Below.heap_setCell _ _ _ _ (by simp; omega), Below.heap_setCell _ _ _ _ (by simp)]; exact hD
  · exact ((hB.setCell (by simp; omega) _).setCell (by simp; omega) _).setCell (by simp; omega) _
theorem one_reg {f : Ins} {i n : Int} (h : oneP f i n = true) : ∃ a : Nat, f.a = a ∧ a < 16 := by
  by_cases h1 : f.op = 1
  · rw [one_set f i n h1] at h; simp [insE, bareI] at h; exact ⟨0, (congrArg Ins.a (of_decide_eq_true h.1)).symm, by omega⟩
  by_cases h2 : f.op = 2
  · rw [one_move f i n h2] at h; simp at h; exact regP_nat h.2.2
  by_cases h3 : f.op = 3
  · rw [one_alu f i n h3] at h; simp at h; exact regP_nat h.2.2.1.2.1
  by_cases h4 : f.op = 4 ∨ f.op = 5
  · rw [one_load f i n h4] at h; simp at h; exact regP_nat h.2.1.2
  by_cases h6 : f.op = 6
  · rw [one_write f i n h6] at h; simp at h; exact regP_nat h.2.1.1
  by_cases h7 : f.op = 7
  · rw [one_jump f i n h7] at h; simp [insE, bareI] at h; exact ⟨0, (congrArg Ins.a (of_decide_eq_true h.1)).symm, by omega⟩
  by_cases h8 : f.op = 8
  · rw [one_ask f i n h8] at h; simp at h; exact regP_nat h.2.2.1.1
  by_cases h9 : f.op = 9
  · rw [one_end f i n h9] at h; simp at h; exact regP_nat h.2
  · rw [one_none f i n h1 h2 h3 (fun e => h4 (.inl e)) (fun e => h4 (.inr e)) h6 h7 h8 h9] at h; cases h
theorem run_go (pk : List Int) (xs : List Ins) (n : Nat) (r st : List Int) (pc : Nat) (steps : Int) (f : Ins) (r' st' : List Int) (pc' : Int) (dn' : Bool) (hf : xs[pc]? = some f) (hs : stepP pk f r st ((pc : Int) + 1) = .go r' st' pc' dn') :
    runP pk xs (n + 1) r st pc steps = if dn' then ⟨0, 0, r'.getD f.a.toNat 0, steps + 1⟩ else runP pk xs n r' st' pc'.toNat (steps + 1) := by
  have e : xs.getD pc default = f := by rw [List.getD_eq_getElem?_getD, hf]; rfl
  rw [runP, e, hs]
theorem run_err (pk : List Int) (xs : List Ins) (n : Nat) (r st : List Int) (pc : Nat) (steps : Int) (f : Ins) (x : Int) (hf : xs[pc]? = some f) (hs : stepP pk f r st ((pc : Int) + 1) = .err x) :
    runP pk xs (n + 1) r st pc steps = ⟨x, pc, 0, steps + 1⟩ := by
  have e : xs.getD pc default = f := by rw [List.getD_eq_getElem?_getD, hf]; rfl
  rw [runP, e, hs]
theorem next_st {pk : List Int} {xs : List Ins} {pv : Value} {M R : Nat} {w w4 : World} {r st r' st' : List Int} {pc q : Nat} {steps : Int} {dn' : Bool} {f : Ins} {Z : Out} (hM : Bk w4 M 53 (maV r' st' pv q (steps + 1) dn')) (hok : MaOk r' st') (hP : Bk w4 (M + 1) 48 [.pointer (some ⟨M, 0, none⟩)]) (hN : Bk w4 (M + 1 + 1) 3 [.int .i64 pc]) (hR : Bk w4 R 30 (outV 0 0 0 0))
    (hD : w4.heap[M + 1 + 1 + 1]? = some (.map doesEs.toArray 9)) (hB : Below w.heap.size w w4) (hr : rightP xs = true) (hf : xs[pc]? = some f) (hpc : pc < xs.length) (hs : stepP pk f r st ((pc : Int) + 1) = .go r' st' q dn') (hZ : Z = runP pk xs (xs.length - (steps + 1).toNat + 1) r st pc steps) (h0 : 0 ≤ steps) (h1 : steps ≤ pc) (hq : pc < q)
    (ht : dn' = true → q = pc + 1 ∧ f.op = 9) (hff : dn' = false → f.op ≠ 9 ∧ (q = pc + 1 ∨ q < xs.length)) : RunSt pk xs Z pv M R w (xs.length + 1 - q) w4 := by
  have hql : q ≤ xs.length := by
    cases dn' with
    | true => have := (ht rfl).1; omega
    | false => rcases (hff rfl).2 with h | h <;> omega
  refine ⟨r', st', q, steps + 1, pc, dn', hM, hok, hP, hN, hR, hD, hB, by omega, by omega, by omega, ?_⟩
  rw [hZ, run_go pk xs _ r st pc steps f r' st' q dn' hf hs]
  cases dn' with
  | true =>
    refine .inr ⟨rfl, hpc, ?_⟩
    rw [show xs.getD pc default = f by rw [List.getD_eq_getElem?_getD, hf]; rfl]; rfl
  | false =>
    refine .inl ⟨rfl, ?_, by simp⟩
    rcases (hff rfl).2 with h | h
    · by_cases hl : pc + 1 = xs.length
      · exact absurd (last_end xs hr f (by rw [← hf]; congr 1; omega)) (hff rfl).1
      · omega
    · exact h
set_option maxHeartbeats 1000000 in
theorem do_t (A : Option Addr) (c : Nat) (xs : List Ins) (P : Option Addr) (d : Nat) (pk : List Int) (w : World) (hI : Inss w (fun b => b < w.heap.size) A c xs) (hr : Hid (rightP xs = true)) (hl : pk.length ≤ 65535)
    (hP : Rd w w.heap.size P d (u8s pk)) (hpb : Bytes pk) (hio : Hid (∀ f ∈ xs, InsOk f)) :
    Calls Try.prog 9 #[.slice A xs.length c, .slice P pk.length d] w fun e w' => e = .returned (outA (doP pk xs)) ∧ Below w.heap.size w w' := by
  have HO : Hid (doP pk xs = runP pk xs xs.length (r0 pk.length) st0 0 0) := Lib.hid (by unfold doP; rw [hr.out, if_pos rfl, if_neg (by omega)])
  have HPK := Lib.hid hP
  clear hP
  have hbuild : ∀ (w : World) (A : Option Addr) (n c : Nat), (Instr.build 53 #[(2, .slice A n c)]).run Try.prog w = .ok (.agg (maC (.slice A n c))) w := fun w A n c => run_build w 53 _ _ (ma_built A n c)
  have hmf : ∀ (fn : Fn) (first cap : Array Value) (w : World), (Instr.makeFunc fn first cap).run Try.prog w = .ok (.func fn first cap) w := fun _ _ _ _ => rfl
  go_enter_defers Try.func9, Try.ntmps9
  go_wp2_with fail
  refine (right_any A c xs _ (hI.alloc _)).mono ?_
  rintro _ w1 ⟨rfl, hb⟩
  rw [hr.out]
  have hz := hb.size
  simp at hz
  have HR : Hid (Bk w1 w.heap.size 30 (outV 0 0 0 0)) := Lib.hid ((Bk.new w 30 (outV 0 0 0 0)).below hb (by simp))
  have HB := Lib.hid hb
  clear hb
  have HI := Lib.hid hI
  clear hI
  have dl : decide ((65535 : Int) < (pk.length : Int)) = false := decide_eq_false (by omega)
  have pl : pk.length ≤ 9223372036854775807 := by omega
  go_wp2_with fail
  refine (does_any _).mono ?_
  rintro _ w2 ⟨rfl, hw2⟩
  obtain ⟨hB2, hM2, hP2, hN2, hR2, hD2, hz2⟩ := do_start P d pk w w1 w2 hz HB.out HR.out hw2
  have HB2 := Lib.hid hB2
  clear hw2 hB2
  rw [show ((((w1.alloc (.cells _ 53)).alloc (.cells _ 48)).alloc (.cells _ 3)).heap.size) = w1.heap.size + 1 + 1 + 1 by simp]
  go_wp2_with fail
  have hk0 := right_len xs hr.out
  go_loopg [30] (xs.length + 1) (fun k _ wr => RunSt pk xs (doP pk xs) (.slice P pk.length d) w1.heap.size w.heap.size w k wr)
  case atStart => exact start_st pk xs _ _ _ _ w w2 hM2 hP2 hN2 hR2 hD2 HB2.out hk0 HO.out (by omega)
  case round =>
    obtain ⟨r, st, pc, steps, now, dn, hM, hok, hP, hN, hR, hD, hBw, hkk, hst0, hst1, hlog⟩ := hrel
    clear hM2 hP2 hN2 hR2 hD2
    cases dn with
    | true =>
      have cP := hP.cell 0
      have cD := hM.cell 531
      rw [ma_tail r st _ _ _ _ hok.rl hok.sl 3] at cD
      have cst := hM.cell 530
      rw [ma_tail r st _ _ _ _ hok.rl hok.sl 2] at cst
      have cN := hN.cell 0
      have cR0 := hR.cell 0
      have cR1 := hR.cell 1
      have cR2 := hR.cell 2
      have cR3 := hR.cell 3
      have fR0 := hR.frozen 0
      have fR1 := hR.frozen 1
      have fR2 := hR.frozen 2
      have fR3 := hR.frozen 3
      simp only [outV, List.getElem?_cons_zero, List.getElem?_cons_succ] at cR0 cR1 cR2 cR3
      simp only [List.getElem?_cons_zero, List.getElem?_cons_succ] at cP cD cst cN
      have hlg : now < xs.length ∧ doP pk xs = ⟨0, 0, r.getD (xs.getD now default).a.toNat 0, steps⟩ := by
        rcases hlog with h | h
        · cases h.1
        · exact h.2
      obtain ⟨hnow, hZ⟩ := hlg
      obtain ⟨a, f, rfl, ha, hf, hc⟩ := HI.out.at_ hnow
      rw [show xs.getD now default = f by rw [List.getD_eq_getElem?_getD, hf.out]; rfl] at hZ
      have h1 := right_one xs hr.out now f hf.out
      obtain ⟨ra, hra, hra'⟩ := one_reg h1
      obtain ⟨x, hx, _, _⟩ := hok.get ra hra'
      rw [hra, Int.toNat_natCast, getD_of hx] at hZ
      have cA := hM.cell ra
      rw [ma_reg _ _ _ _ _ _ _ _ hx] at cA
      have hcw : ∀ j, j < 9 → wr.cell? ((a.add (now * 9)).add j) = (insV f)[j]? := fun j hj => (hBw.cell (p := (a.add (now * 9)).add j) (by rw [add_blk, add_blk]; exact ha)).trans (hc j hj)
      have e4 := (flat9 hcw).2.2.2.2.1
      rw [hra] at e4
      have HZ := Lib.hid hZ
      have HR4 := Lib.hid hR
      have HB4 := Lib.hid hBw
      have ia1 : (0 : Int) ≤ (ra : Int) := by omega
      have ia2 : (ra : Int) < 16 := by omega
      clear hcw hc hM hP hN hR hD hBw hlog hok h1 hx hra hZ
      go_wp2_with fail
      go_still_tail 15, (by kernel_rfl)
      go_wp2_with fail
      refine leaves_cons (f := 19) (args := #[.pointer (some ⟨w1.heap.size + 1 + 1, 0, none⟩), .pointer (some ⟨w1.heap.size + 1, 0, none⟩), .pointer (some ⟨w.heap.size, 0, none⟩)]) (by simp) (by simp [go_sem]) ?_
      refine (run_idle _ _ _ _).mono ?_
      rintro e u' w5 ⟨rfl, rfl, rfl⟩
      exact ⟨outA ⟨0, 0, x, steps⟩, leave_out w.heap.size ⟨0, 0, x, steps⟩ _ _ (put_out HR4.out 0 0 x steps).drew rfl, by rw [HZ.out], (HB4.out.grown (put_gr wr w.heap.size 0 0 x steps) HB4.out.size (fun k e => by injection e with e; omega)).drew⟩
    | false =>
      have cP := hP.cell 0
      have cD := hM.cell 531
      rw [ma_tail r st _ _ _ _ hok.rl hok.sl 3] at cD
      have cpc := hM.cell 529
      rw [ma_tail r st _ _ _ _ hok.rl hok.sl 1] at cpc
      have cst := hM.cell 530
      rw [ma_tail r st _ _ _ _ hok.rl hok.sl 2] at cst
      have cN := hN.cell 0
      simp only [List.getElem?_cons_zero, List.getElem?_cons_succ] at cP cD cpc cst cN
      have fN := hN.frozen 0
      have fpc := hM.frozen 529
      have fst := hM.frozen 530
      have lM := hM.lt
      have lN := hN.lt
      have HS := Lib.hid (mid_st hM hok hP hN hR hD hBw (by omega))
      have HL := Lib.hid hlog
      have HOK := Lib.hid hok
      clear hM hok hP hN hR hD hBw hlog
      have b1 : (pc : Int) ≤ 20000 := by omega
      have b2 : steps ≤ 20000 := by omega
      go_upto_region 14 with (fail)
      clear cP cD cpc cst cN fN fpc fst lM lN
      obtain ⟨hM, hP, hN, hR, hD, hBw⟩ := HS.out
      clear HS
      generalize ((wr.setCell ⟨w1.heap.size + 1 + 1, 0, none⟩ (.int .i64 pc)).setCell ⟨w1.heap.size, 529, none⟩ (.int .i64 ((pc : Int) + 1))).setCell ⟨w1.heap.size, 530, none⟩ (.int .i64 (steps + 1)) = W3 at hM hP hN hR hD hBw ⊢
      have hpc : pc < xs.length := by rcases HL.out with h | h; exact h.2.1; cases h.1
      obtain ⟨a, f, rfl, ha, hf, hc⟩ := HI.out.at_ hpc
      have h1 := right_one xs hr.out pc f hf.out
      have hfo := hio.out f (List.mem_of_getElem? hf.out)
      obtain ⟨j, g, hj, hent, hq⟩ := does_is f pc xs.length h1 hfo
      have hlk : (Instr.lookup 55 (.map (some (w1.heap.size + 1 + 1 + 1))) (.int .u8 f.op) false).run Try.prog W3.drew = .ok (.func (.func g) #[] #[]) W3.drew := look1_at Try.underlying55 Try.underlying37 W3.drew _ _ _ hD _ _ _ hj
      have hcw : ∀ j, j < 9 → W3.cell? ((a.add (pc * 9)).add j) = (insV f)[j]? := fun j hj => (hBw.cell (p := (a.add (pc * 9)).add j) (by rw [add_blk, add_blk]; exact ha)).trans (hc j hj)
      obtain ⟨e0, e1, e2, e3, e4, e5, e6, e7, e8⟩ := flat9 hcw
      have cP := hP.cell 0
      have cN := hN.cell 0
      simp only [List.getElem?_cons_zero] at cP cN
      have HM := Lib.hid hM
      have HP := Lib.hid hP
      have HN := Lib.hid hN
      have HR := Lib.hid hR
      have HD := Lib.hid hD
      have HW := Lib.hid hBw
      have hcall := hq w1.heap.size r st P d pk w.heap.size ((pc : Int) + 1) (steps + 1) W3.drew hM HOK.out (HPK.out.below hBw.drew) hBw.size hpb (by omega)
      simp only [insA, insV] at hcall
      have HC := Lib.hid hcall
      have HONE := Lib.hid h1
      clear hM hP hN hR hD hBw hq hj hcw hc hcall h1
      go_still_tail 12, (by kernel_rfl)
      go_wp2_with fail
      refine HC.out.mono ?_
      rintro e w4 ⟨hg, hm⟩
      have hP4 : Bk w4 (w1.heap.size + 1) 48 [.pointer (some ⟨w1.heap.size, 0, none⟩)] := HP.out.drew.grown hg (by simp)
      have hN4 : Bk w4 (w1.heap.size + 1 + 1) 3 [.int .i64 pc] := HN.out.drew.grown hg (by simp; omega)
      have hR4 : Bk w4 w.heap.size 30 (outV 0 0 0 0) := HR.out.drew.grown hg (by simp; omega)
      have hD4 : w4.heap[w1.heap.size + 1 + 1 + 1]? = some (.map doesEs.toArray 9) := (hg.block (w1.heap.size + 1 + 1 + 1) (Array.getElem?_eq_some_iff.1 HD.out).1 (by simp; omega)).trans HD.out
      have hB4 : Below w.heap.size w w4 := HW.out.drew.grown hg HW.out.size (fun k e => by injection e with e; omega)
      have HLr : doP pk xs = runP pk xs (xs.length - (steps + 1).toNat + 1) r st pc steps := by
        rcases HL.out with h | h
        · rw [h.2.2]; congr 1; omega
        · cases h.1
      cases hs : stepP pk f r st ((pc : Int) + 1) with
      | err x =>
        rw [hs] at hm
        obtain ⟨rfl, hM4⟩ := hm
        have HZ := Lib.hid (HLr.trans (run_err pk xs _ r st pc steps f x hf.out hs))
        unfold thrown
        refine leaves_cons (f := 19) (args := #[.pointer (some ⟨w1.heap.size + 1 + 1, 0, none⟩), .pointer (some ⟨w1.heap.size + 1, 0, none⟩), .pointer (some ⟨w.heap.size, 0, none⟩)]) (by simp) (by simp [go_sem]) ?_
        refine (run_caught (w1.heap.size + 1 + 1) (w1.heap.size + 1) w.heap.size w1.heap.size x pc (steps + 1) r st _ _ false w4 hN4 hP4 hR4 hM4 HOK.out (by omega) (by omega) (by omega)).mono ?_
        rintro e u' w5 ⟨rfl, rfl, hR5, hg5⟩
        show Leaves Try.prog Try.f9 _ _ [] .returning w5
        exact ⟨outA ⟨x, pc, 0, steps + 1⟩, leave_out w.heap.size ⟨x, pc, 0, steps + 1⟩ _ w5 hR5 rfl, by rw [HZ.out], hB4.grown hg5 hB4.size (fun k e => by injection e with e; omega)⟩
      | go r' st' pc' dn' =>
        rw [hs] at hm
        obtain ⟨rfl, hM4⟩ := hm
        obtain ⟨hok', q, rfl, hq1, hqt, hqf⟩ := step_go pk f r st pc xs.length r' st' pc' dn' hs HONE.out hfo HOK.out hpb
        have HST : Hid (RunSt pk xs (doP pk xs) (.slice P pk.length d) w1.heap.size w.heap.size w (xs.length + 1 - q) w4) := Lib.hid (next_st hM4 hok' hP4 hN4 hR4 hD4 hB4 hr.out hf.out hpc hs HLr hst0 hst1 hq1 hqt hqf)
        have hk' : xs.length + 1 - q < gk := by omega
        clear hP4 hN4 hR4 hD4 hB4 hM4 hs HLr hqt hqf hg hok'
        go_wp2_with fail
        go_roundg (xs.length + 1 - q)
        case measure => exact hk'
        case rel => exact HST.out
end Go.Proofs.Ytbfegghkipoppaa
