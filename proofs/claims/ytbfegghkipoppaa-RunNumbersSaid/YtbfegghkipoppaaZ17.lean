/- The document's machine: an instruction; a run. run.Do and the document's Do, of any code and packet; outcomes compared. The chapter's examples. LentFlats. KeptFlats. RunTells: its walk; arguments opened. -/
import Derived.Deep.DeepCutAuto
import Derived.Laws.StructEq
import Derived.Outline
import Derived.Deep.RegionHeld3
import Derived.Deep.Slices
import Derived.OpenShut
import Derived.ChangeArms
import Derived.Test.YtbfegghkipoppaaZ16
import Derived.Test.YtbfegghkipoppaaZ12
import Derived.Test.YtbfegghkipoppaaZ15
import Derived.Test.YtbfegghkipoppaaZ1
namespace Go.Proofs.Ytbfegghkipoppaa
open Go.RowKit Go.Shelf
set_option linter.unusedVariables false
set_option maxRecDepth 100000

theorem rone_step (f : Ins) (i n : Int) (h : oneP f i n = true) (hf : InsOk f) (Q RB B0 : Nat) (r st : List Int) (P : Option Addr) (d0 : Nat) (pk : List Int) (pc : Int) (w : World) (hS : RSt w B0 Q RB r st) (hB0 : B0 ≤ w.heap.size) (hp0 : 0 ≤ pc) (hp1 : pc ≤ 20000)
    (hP : Rd w B0 P d0 (u8s pk)) (hpb : Bytes pk) (hpl : pk.length ≤ 1000000) :
    Calls Try.prog 22 #[.pointer (some ⟨Q, 0, none⟩), insA f, .int .i64 pc, .slice P pk.length d0] w (RDid pk f Q RB B0 r st pc w) := by
  obtain ⟨g, cap, hA⟩ := hS
  obtain ⟨a, ha, ha'⟩ := one_reg h
  obtain ⟨x, hx, hx0, hx1⟩ := hA.ok.get a ha'
  by_cases h1 : f.op = 1
  · have hr : regP f.d = true := by rw [one_set f i n h1] at h; simp at h; exact h.2
    obtain ⟨d, hd, hd'⟩ := regP_nat hr
    exact ro_set f Q RB B0 g cap d a r st P d0 pk pc x w hA hB0 h1 (Lib.hid hd) hd' (Lib.hid ha) hx hf hp0 hp1
  by_cases h2 : f.op = 2
  · have hr : regP f.d = true ∧ regP f.a = true := by rw [one_move f i n h2] at h; simp at h; exact h.2
    obtain ⟨d, hd, hd'⟩ := regP_nat hr.1
    exact ro_move f Q RB B0 g cap d a r st P d0 pk pc x w hA hB0 h2 (Lib.hid hd) hd' (Lib.hid ha) hx hf hp0 hp1
  by_cases h3 : f.op = 3
  · have hr : regP f.d = true ∧ regP f.a = true ∧ regP f.b = true := by rw [one_alu f i n h3] at h; simp at h; exact h.2.2.1
    obtain ⟨d, hd, hd'⟩ := regP_nat hr.1
    obtain ⟨b, hb, hb'⟩ := regP_nat hr.2.2
    obtain ⟨y, hy, hy0, hy1⟩ := hA.ok.get b hb'
    obtain ⟨xn, rfl⟩ := Int.eq_ofNat_of_zero_le hx0
    obtain ⟨yn, rfl⟩ := Int.eq_ofNat_of_zero_le hy0
    by_cases he : DoE f.nar f.what yn = 0
    · exact ro_alu f Q RB B0 g cap d a b r st P d0 pk pc xn yn w hA hB0 h3 (Lib.hid hd) hd' (Lib.hid ha) hx (Lib.hid hb) hy hf hp0 hp1 (Lib.hid he)
    · exact ro_alu_err f Q RB B0 g cap a b r st P d0 pk pc xn yn w hA hB0 h3 (Lib.hid ha) hx (Lib.hid hb) hy hf hp0 hp1 (Lib.hid (by simpa using he))
  by_cases h4 : f.op = 4
  · have hr : (regP f.d = true ∧ regP f.a = true) ∧ sizedP f.size = true := by rw [one_load f i n (.inl h4)] at h; simp at h; exact h.2
    obtain ⟨d, hd, hd'⟩ := regP_nat hr.1.1
    by_cases he : errOf pk.length (farP x f.n) f.size = 0
    · exact ro_load f Q RB B0 g cap d a r st P d0 pk pc x w hA hB0 h4 (Lib.hid hd) hd' (Lib.hid ha) hx hf hp0 hp1 hP hpb hpl (Lib.hid he)
    · exact ro_load_err f Q RB B0 g cap a r st P d0 pk pc x w hA hB0 h4 (Lib.hid ha) hx hf hp0 hp1 hP hpb hpl (Lib.hid (by simpa using he))
  by_cases h5 : f.op = 5
  · have hr : (regP f.d = true ∧ regP f.a = true) ∧ sizedP f.size = true := by rw [one_load f i n (.inr h5)] at h; simp at h; exact h.2
    obtain ⟨d, hd, hd'⟩ := regP_nat hr.1.1
    by_cases he : -512 ≤ farP x f.n ∧ farP x f.n ≤ -f.size
    · exact ro_read f Q RB B0 g cap d a r st P d0 pk pc x w hA hB0 h5 (Lib.hid hd) hd' (Lib.hid ha) hx hf hp0 hp1 (Lib.hid (sized_ok hr.2)) he
    · exact ro_read_err f Q RB B0 g cap a r st P d0 pk pc x w hA hB0 h5 (Lib.hid ha) hx hf hp0 hp1 (Lib.hid (sized_ok hr.2)) he
  by_cases h6 : f.op = 6
  · have hr : (regP f.a = true ∧ regP f.b = true) ∧ sizedP f.size = true := by rw [one_write f i n h6] at h; simp at h; exact h.2
    obtain ⟨b, hb, hb'⟩ := regP_nat hr.1.2
    obtain ⟨y, hy, hy0, hy1⟩ := hA.ok.get b hb'
    by_cases he : -512 ≤ farP x f.n ∧ farP x f.n ≤ -f.size
    · exact ro_write f Q RB B0 g cap a b r st P d0 pk pc x y w hA hB0 h6 (Lib.hid ha) hx (Lib.hid hb) hy hf hp0 hp1 (Lib.hid (sized_ok hr.2)) he
    · exact ro_write_err f Q RB B0 g cap a b r st P d0 pk pc x y w hA hB0 h6 (Lib.hid ha) hx (Lib.hid hb) hy hf hp0 hp1 (Lib.hid (sized_ok hr.2)) he
  by_cases h7 : f.op = 7
  · exact ro_jump f Q RB B0 g cap a r st P d0 pk pc x w hA hB0 h7 (Lib.hid ha) hx hf hp0 hp1
  by_cases h8 : f.op = 8
  · have hr : regP f.a = true ∧ regP f.b = true := by rw [one_ask f i n h8] at h; simp at h; exact h.2.2.1
    obtain ⟨b, hb, hb'⟩ := regP_nat hr.2
    obtain ⟨y, hy, hy0, hy1⟩ := hA.ok.get b hb'
    obtain ⟨xn, rfl⟩ := Int.eq_ofNat_of_zero_le hx0
    obtain ⟨yn, rfl⟩ := Int.eq_ofNat_of_zero_le hy0
    cases he : IsV f.nar f.what xn yn with
    | true => exact ro_ask_t f Q RB B0 g cap a b r st P d0 pk pc xn yn w hA hB0 h8 (Lib.hid ha) hx (Lib.hid hb) hy hf hp0 hp1 (Lib.hid he)
    | false => exact ro_ask_f f Q RB B0 g cap a b r st P d0 pk pc xn yn w hA hB0 h8 (Lib.hid ha) hx (Lib.hid hb) hy hf hp0 hp1 (Lib.hid he)
  by_cases h9 : f.op = 9
  · exact ro_end f Q RB B0 g cap a r st P d0 pk pc x w hA hB0 h9 (Lib.hid ha) hx hf hp0 hp1
  rw [one_none f i n h1 h2 h3 h4 h5 h6 h7 h8 h9] at h
  cases h
theorem out_ret (R : Nat) (o : Out) (tmps : Array Value) (W : World) (hR : Bk W R 30 (outV o.err o.pc o.v o.steps)) (ht : tmps.getD 4 undef = .pointer (some ⟨R, 0, none⟩)) : (results Try.f10 tmps).run Try.prog W = .ok (outA o) W := by
  have c0 := hR.cell 0
  have c1 := hR.cell 1
  have c2 := hR.cell 2
  have c3 := hR.cell 3
  simp only [outV, List.getElem?_cons_zero, List.getElem?_cons_succ] at c0 c1 c2 c3
  have ht' : tmps[4]?.getD undef = .pointer (some ⟨R, 0, none⟩) := by simpa using ht
  simp [results, Try.results10, go_sem, ht', c0, c1, c2, c3, outA, outV]
def z16 : Array Value := ((List.replicate 16 0).map (Value.int .u64)).toArray
def z512 : Array Value := (u8s st0).toArray
theorem mk16 (w : World) : (Instr.makeSlice 35 (.int .i64 16) (.int .i64 16)).run Try.prog w = .ok (.slice (some ⟨w.heap.size, 0, none⟩) 16 16) (w.alloc (.cells z16 28)) := by kernel_rfl
theorem mk512 (w : World) : (Instr.makeSlice 23 (.int .i64 512) (.int .i64 512)).run Try.prog w = .ok (.slice (some ⟨w.heap.size, 0, none⟩) 512 512) (w.alloc (.cells z512 5)) := by kernel_rfl
theorem ok1 : MaOk (List.replicate 16 0) st0 :=
  ⟨by simp, by simp [st0], fun x hx => by rw [List.eq_of_mem_replicate hx]; omega, fun x hx => by rw [List.eq_of_mem_replicate hx]; omega⟩
theorem bk_rd {W : World} {g : Nat} {xs : List Value} {t : TypeId} (h : Bk W g t xs) (c : Nat) : Rd W W.heap.size (some ⟨g, 0, none⟩) c xs := by
  refine ⟨fun e => (by cases e), fun _ => ⟨_, rfl, h.lt, fun j u hu => ?_⟩⟩
  rw [show Addr.add ⟨g, 0, none⟩ j = ⟨g, j, none⟩ by unfold Addr.add; split <;> simp_all, h.cell, hu]
theorem rat_mk {W w1 : World} {Q RB g : Nat} (hq : Bk W Q 60 [.slice (some ⟨RB, 0, none⟩) 16 16, .slice (some ⟨g, 0, none⟩) 512 512]) (hr : Bk W RB 28 ((List.replicate 16 0).map (Value.int .u64))) (hs : Bk W g 5 (u8s st0)) (h1 : w1.heap.size ≤ Q) (h2 : w1.heap.size ≤ RB) (h3 : w1.heap.size ≤ g) (n1 : Q ≠ RB) (n2 : g ≠ Q) (n3 : g ≠ RB) :
    RAt W w1.heap.size Q RB g 512 (List.replicate 16 0) st0 :=
  ⟨hq, hr, bk_rd hs 512, h1, h2, h3, n1, n2, n3, Nat.le_refl _, hs.lt, ok1⟩
theorem rat_made (w1 : World) : RAt (((w1.alloc (.cells z16 28)).alloc (.cells z512 5)).alloc (.cells #[.slice (some ⟨w1.heap.size, 0, none⟩) 16 16, .slice (some ⟨w1.heap.size + 1, 0, none⟩) 512 512] 60)).drew w1.heap.size (w1.heap.size + 1 + 1) w1.heap.size (w1.heap.size + 1) 512 (List.replicate 16 0) st0 := by
  have h0 := Bk.new w1 28 ((List.replicate 16 0).map (Value.int .u64))
  have h1 := Bk.new (w1.alloc (.cells z16 28)) 5 (u8s st0)
  have h2 := Bk.new ((w1.alloc (.cells z16 28)).alloc (.cells z512 5)) 60 [.slice (some ⟨w1.heap.size, 0, none⟩) 16 16, .slice (some ⟨w1.heap.size + 1, 0, none⟩) 512 512]
  rw [World.size_alloc] at h1
  rw [World.size_alloc, World.size_alloc] at h2
  exact rat_mk h2.drew ((h0.alloc _).alloc _).drew (h1.alloc _).drew (by omega) (by omega) (by omega) (by omega) (by omega) (by omega)
theorem rat_made2 (w1 : World) : RAt (((w1.alloc (.cells z512 5)).alloc (.cells z16 28)).alloc (.cells #[.slice (some ⟨w1.heap.size + 1, 0, none⟩) 16 16, .slice (some ⟨w1.heap.size, 0, none⟩) 512 512] 60)).drew w1.heap.size (w1.heap.size + 1 + 1) (w1.heap.size + 1) w1.heap.size 512 (List.replicate 16 0) st0 := by
  have h0 := Bk.new w1 5 (u8s st0)
  have h1 := Bk.new (w1.alloc (.cells z512 5)) 28 ((List.replicate 16 0).map (Value.int .u64))
  have h2 := Bk.new ((w1.alloc (.cells z512 5)).alloc (.cells z16 28)) 60 [.slice (some ⟨w1.heap.size + 1, 0, none⟩) 16 16, .slice (some ⟨w1.heap.size, 0, none⟩) 512 512]
  rw [World.size_alloc] at h1
  rw [World.size_alloc, World.size_alloc] at h2
  exact rat_mk h2.drew (h1.alloc _).drew ((h0.alloc _).alloc _).drew (by omega) (by omega) (by omega) (by omega) (by omega) (by omega)
set_option maxHeartbeats 1000000 in
theorem rdo_t (A : Option Addr) (c : Nat) (xs : List Ins) (P : Option Addr) (d : Nat) (pk : List Int) (w : World) (hI : Inss w (fun b => b < w.heap.size) A c xs) (hr : Hid (rightP xs = true)) (hl : pk.length ≤ 65535)
    (hP : Rd w w.heap.size P d (u8s pk)) (hpb : Bytes pk) (hio : Hid (∀ f ∈ xs, InsOk f)) :
    Calls Try.prog 10 #[.slice A xs.length c, .slice P pk.length d] w fun e w' => e = .returned (outA (doP pk xs)) ∧ Below w.heap.size w w' := by
  have HO : Hid (doP pk xs = runP pk xs xs.length (r0 pk.length) st0 0 0) := Lib.hid (by unfold doP; rw [hr.out, if_pos rfl, if_neg (by omega)])
  have HPK := Lib.hid hP
  clear hP
  have hm1 := mk16
  have hm2 := mk512
  go_enter Try.func10, Try.ntmps10
  go_wp2_with fail
  refine (rright_any A c xs _ (hI.alloc _)).mono ?_
  rintro _ w1 ⟨rfl, hb⟩
  rw [hr.out]
  have hz := hb.size
  simp at hz
  have HR : Hid (Bk w1 w.heap.size 30 (outV 0 0 0 0)) := Lib.hid ((Bk.new w 30 (outV 0 0 0 0)).below hb (by simp))
  have HB := Lib.hid hb
  have HW1 : Hid (Below w.heap.size w w1) := Lib.hid (((Below.refl _ _).alloc (Nat.le_refl _) _).trans (hb.mono (by simp)))
  clear hb
  have HI := Lib.hid hI
  clear hI
  have dl : decide ((65535 : Int) < (pk.length : Int)) = false := decide_eq_false (by omega)
  have pl : pk.length ≤ 9223372036854775807 := by omega
  go_upto_region 5 with fail
  go_cut [5] (fun v wx => ∃ Q RB g cap : Nat, v = .pointer (some ⟨Q, 0, none⟩) ∧ RAt wx w1.heap.size Q RB g cap (List.replicate 16 0) st0 ∧ Below w1.heap.size w1 wx)
  case first =>
    go_region
    all_goals
      go_wp2_with fail
      go_meet
      first
        | exact ⟨_, _, _, _, rfl, rat_made w1, ((((Below.refl _ _).alloc (Nat.le_refl _) _).alloc (by simp) _).alloc (by simp; omega) _).drew⟩
        | exact ⟨_, _, _, _, rfl, rat_made2 w1, ((((Below.refl _ _).alloc (Nat.le_refl _) _).alloc (by simp) _).alloc (by simp; omega) _).drew⟩
  case rest =>
    obtain ⟨Q, RB, g, cap, rfl, hA, hB1⟩ := hcut
    have cq0 := hA.q.cell 0
    simp only [List.getElem?_cons_zero] at cq0
    have c2 := rreg hA.rb (i := 2) (x := 0) (by simp)
    have f2 := hA.rb.frozen 2
    have HA := Lib.hid hA
    have HB1 := Lib.hid hB1
    clear hA hB1
    go_wp2_with fail
    have hset : RAt (wc.setCell ⟨RB, 2, none⟩ (.int .u64 pk.length)) w1.heap.size Q RB g cap (r0 pk.length) st0 := HA.out.put 2 pk.length (by omega) (by omega)
    have hBs : Below w1.heap.size w1 (wc.setCell ⟨RB, 2, none⟩ (.int .u64 pk.length)) := HB1.out.setCell HA.out.h2 _
    clear cq0 c2 f2
    generalize wc.setCell ⟨RB, 2, none⟩ (.int .u64 pk.length) = W0 at *
    have hk0 := right_len xs hr.out
    go_loopg [6, 7] xs.length (fun k a s wr => ∃ (r st : List Int) (pc steps : Nat), a = .int .i64 pc ∧ s = .int .i64 steps ∧ RSt wr w1.heap.size Q RB r st ∧ Below w1.heap.size w1 wr ∧ k + pc = xs.length ∧ steps ≤ pc ∧ pc < xs.length ∧ Hid (doP pk xs = runP pk xs (xs.length - steps) r st pc steps))
    case atStart => exact ⟨r0 pk.length, st0, 0, 0, rfl, rfl, ⟨g, cap, hset⟩, hBs, by omega, by omega, by omega, Lib.hid HO.out⟩
    case round =>
      obtain ⟨r, st, pc, steps, rfl, rfl, hS, hBr, hkk, hsp, hpc, hZ⟩ := hrel
      clear hset hBs
      obtain ⟨a, f, rfl, ha, hf, hc⟩ := HI.out.at_ hpc
      have h1 := right_one xs hr.out pc f hf.out
      have hfo := hio.out f (List.mem_of_getElem? hf.out)
      have hBw : Below w.heap.size w wr := ((((Below.refl _ _).alloc (Nat.le_refl _) _).trans (HB.out.mono (by simp)))).trans (hBr.mono (by omega))
      have hcw : ∀ j, j < 9 → wr.cell? ((a.add (pc * 9)).add j) = (insV f)[j]? := fun j hj => (hBw.cell (p := (a.add (pc * 9)).add j) (by rw [add_blk, add_blk]; exact ha)).trans (hc j hj)
      obtain ⟨e0, e1, e2, e3, e4, e5, e6, e7, e8⟩ := flat9 hcw
      have hok : MaOk r st := by obtain ⟨g', c', h'⟩ := hS; exact h'.ok
      have hcall := rone_step f pc xs.length h1 hfo Q RB w1.heap.size r st P d pk pc wr hS hBr.size (by omega) (by omega) (((HPK.out.below hBw).mono (by omega))) hpb (by omega)
      simp only [insA, insV] at hcall
      have HC := Lib.hid hcall
      have HBR := Lib.hid hBr
      have HF := Lib.hid hf.out
      have b1 : (steps : Int) ≤ 20000 := by omega
      have HBW := Lib.hid hBw
      have hgl : (a.add (pc * 9)).block < w.heap.size := by rw [add_blk]; exact ha
      have HOK := Lib.hid hok
      clear hcall hS hBr hcw hc hBw hok
      go_wp2_with fail
      refine HC.out.mono ?_
      rintro e w4 ⟨hb4, hm⟩
      cases hs : stepP pk f r st ((pc : Int) + 1) with
      | err x =>
        rw [hs] at hm
        obtain ⟨rfl, hS4⟩ := hm
        have hx0 : (x != 0) = true := by have := step_err pk f r st _ x hs; simpa using this
        have HZ : Hid (doP pk xs = ⟨x, pc, 0, (steps : Int) + 1⟩) := Lib.hid (by rw [hZ.out, show xs.length - steps = (xs.length - steps - 1) + 1 by omega, run_err pk xs _ r st pc steps f x HF.out hs])
        have hB4 : Below w1.heap.size w1 w4 := HBR.out.trans hb4
        have HR4 : Hid (Bk w4 w.heap.size 30 (outV 0 0 0 0)) := Lib.hid (HR.out.below hB4 HR.out.lt)
        have cR0 := HR4.out.cell 0
        have cR1 := HR4.out.cell 1
        have cR2 := HR4.out.cell 2
        have cR3 := HR4.out.cell 3
        have fR0 := HR4.out.frozen 0
        have fR1 := HR4.out.frozen 1
        have fR2 := HR4.out.frozen 2
        have fR3 := HR4.out.frozen 3
        simp only [outV, List.getElem?_cons_zero, List.getElem?_cons_succ] at cR0 cR1 cR2 cR3
        have HB4 := Lib.hid hB4
        clear hB4 hb4 hS4 hs
        go_wp2_with fail
        exact bodyPost_ret (out_ret w.heap.size ⟨x, pc, 0, (steps : Int) + 1⟩ _ _ (put_out HR4.out x pc 0 ((steps : Int) + 1)) rfl) rfl ⟨by rw [HZ.out], (HW1.out.trans (HB4.out.mono (by omega))).grown (put_gr w4 w.heap.size x pc 0 ((steps : Int) + 1)) (by have := HB4.out.size; omega) (fun k e => by injection e with e; omega)⟩
      | go r' st' pc' dn' =>
        rw [hs] at hm
        obtain ⟨rfl, hS4⟩ := hm
        obtain ⟨hok', q, rfl, hq1, hqt, hqf⟩ := step_go pk f r st pc xs.length r' st' pc' dn' hs h1 hfo HOK.out hpb
        have hrun : doP pk xs = if dn' then ⟨0, 0, r'.getD f.a.toNat 0, (steps : Int) + 1⟩ else runP pk xs (xs.length - (steps + 1)) r' st' q ((steps : Int) + 1) := by
          rw [hZ.out, show xs.length - steps = (xs.length - (steps + 1)) + 1 by omega, run_go pk xs _ r st pc steps f r' st' q dn' HF.out hs, Int.toNat_natCast]
        have hB4 : Below w1.heap.size w1 w4 := HBR.out.trans hb4
        cases dn' with
        | false =>
          have hqn : q < xs.length := by
            rcases (hqf rfl).2 with h | h
            · by_cases hl : pc + 1 = xs.length
              · exact absurd (last_end xs hr.out f (by rw [← HF.out]; congr 1; omega)) (hqf rfl).1
              · omega
            · exact h
          have HZ : Hid (doP pk xs = runP pk xs (xs.length - (steps + 1)) r' st' q ((steps + 1 : Nat) : Int)) := Lib.hid (by rw [hrun]; rfl)
          have HS4 := Lib.hid hS4
          have HB4 := Lib.hid hB4
          have dq : decide ((q : Int) < 0) = false := decide_eq_false (by omega)
          simp only [Bool.false_eq_true, if_false]
          clear hs hrun hqt hqf hok' hS4 hB4 hb4
          go_wp2_with fail
          go_roundg (xs.length - q)
          case measure => omega
          case rel => exact ⟨r', st', q, steps + 1, rfl, by go_num, HS4.out, HB4.out, by omega, by omega, hqn, HZ.out⟩
        | true =>
          obtain ⟨g4, cap4, hA4⟩ := hS4
          obtain ⟨ra, hra, hra'⟩ := one_reg h1
          obtain ⟨x, hx, _, _⟩ := hok'.get ra hra'
          have HZ : Hid (doP pk xs = ⟨0, 0, x, (steps : Int) + 1⟩) := Lib.hid (by rw [hrun, if_pos rfl, hra, Int.toNat_natCast, getD_of hx])
          have HR4 : Hid (Bk w4 w.heap.size 30 (outV 0 0 0 0)) := Lib.hid (HR.out.below hB4 HR.out.lt)
          have cR0 := HR4.out.cell 0
          have cR1 := HR4.out.cell 1
          have cR2 := HR4.out.cell 2
          have cR3 := HR4.out.cell 3
          have fR0 := HR4.out.frozen 0
          have fR1 := HR4.out.frozen 1
          have fR2 := HR4.out.frozen 2
          have fR3 := HR4.out.frozen 3
          simp only [outV, List.getElem?_cons_zero, List.getElem?_cons_succ] at cR0 cR1 cR2 cR3
          have cq0 := hA4.q.cell 0
          simp only [List.getElem?_cons_zero] at cq0
          have cA := rreg hA4.rb hx
          have e4' : w4.cell? ⟨(a.add (pc * 9)).block, (a.add (pc * 9)).off + 4, none⟩ = some (.int .i64 (ra : Int)) := (hB4.cell (p := ⟨(a.add (pc * 9)).block, (a.add (pc * 9)).off + 4, none⟩) (by show (a.add (pc * 9)).block < _; omega)).trans (((HBR.out.cell (p := ⟨(a.add (pc * 9)).block, (a.add (pc * 9)).off + 4, none⟩) (by show (a.add (pc * 9)).block < _; omega)).symm.trans e4).trans (by rw [hra]))
          have ia1 : (0 : Int) ≤ (ra : Int) := by omega
          have ia2 : (ra : Int) < 16 := by omega
          have HB4 := Lib.hid hB4
          simp only [if_true]
          clear hs hrun hqt hqf hok' hA4 hB4 hb4 hx hra e0 e1 e2 e3 e4 e5 e6 e7 e8
          go_wp2_with fail
          go_still_tail 13, (by kernel_rfl)
          go_wp2_with fail
          exact bodyPost_ret (out_ret w.heap.size ⟨0, 0, x, (steps : Int) + 1⟩ _ _ (put_out HR4.out 0 0 x ((steps : Int) + 1)).drew rfl) rfl ⟨by rw [HZ.out], ((HW1.out.trans (HB4.out.mono (by omega))).grown (put_gr w4 w.heap.size 0 0 x ((steps : Int) + 1)) (by have := HB4.out.size; omega) (fun k e => by injection e with e; omega)).drew⟩
end Go.Proofs.Ytbfegghkipoppaa
namespace Go.Proofs.Ytbfegghkipoppaa
open Go.RowKit Go.Shelf
set_option linter.unusedVariables false
set_option maxRecDepth 100000

theorem doR_any (A : Option Addr) (c : Nat) (xs : List Ins) (P : Option Addr) (d : Nat) (pk : List Int) (w : World) (hI : Inss w (fun b => b < w.heap.size) A c xs) (hP : Rd w w.heap.size P d (u8s pk)) (hpb : Bytes pk) (hl : pk.length ≤ 1000000) (hio : ∀ f ∈ xs, InsOk f) :
    Calls Try.prog 9 #[.slice A xs.length c, .slice P pk.length d] w fun e w' => e = .returned (outA (doP pk xs)) ∧ Below w.heap.size w w' := by
  cases hr : rightP xs with
  | false => exact do_f A c xs P d pk w hI (Lib.hid hr)
  | true =>
    by_cases h : 65535 < pk.length
    · exact do_l A c xs P d pk w hI (Lib.hid hr) h hl
    · exact do_t A c xs P d pk w hI (Lib.hid hr) (by omega) hP hpb (Lib.hid hio)
theorem rdo_f (A : Option Addr) (c : Nat) (xs : List Ins) (P : Option Addr) (d : Nat) (pk : List Int) (w : World) (hI : Inss w (fun b => b < w.heap.size) A c xs) (hr : Hid (rightP xs = false)) :
    Calls Try.prog 10 #[.slice A xs.length c, .slice P pk.length d] w fun e w' => e = .returned (outA (doP pk xs)) ∧ Below w.heap.size w w' := by
  have HO : Hid (doP pk xs = ⟨4, 0, 0, 0⟩) := Lib.hid (by unfold doP; rw [hr.out]; rfl)
  go_enter Try.func10, Try.ntmps10
  go_wp2_with fail
  refine (rright_any A c xs _ (hI.alloc _)).mono ?_
  rintro _ w1 ⟨rfl, hb⟩
  rw [hr.out]
  have hz := hb.size
  simp at hz
  have HR : Hid (Bk w1 w.heap.size 30 (outV 0 0 0 0)) := Lib.hid ((Bk.new w 30 (outV 0 0 0 0)).below hb (by simp))
  have cR0 := HR.out.cell 0
  have cR1 := HR.out.cell 1
  have cR2 := HR.out.cell 2
  have cR3 := HR.out.cell 3
  have fR0 := HR.out.frozen 0
  have fR1 := HR.out.frozen 1
  have fR2 := HR.out.frozen 2
  have fR3 := HR.out.frozen 3
  simp only [outV, List.getElem?_cons_zero, List.getElem?_cons_succ] at cR0 cR1 cR2 cR3
  have HB := Lib.hid hb
  clear hb
  go_wp2_with fail
  exact bodyPost_ret (out_ret w.heap.size ⟨4, 0, 0, 0⟩ _ _ (put_out HR.out 4 0 0 0) rfl) rfl ⟨by rw [HO.out], ((((Below.refl _ _).alloc (Nat.le_refl _) _).trans (HB.out.mono (by simp)))).grown (put_gr w1 w.heap.size 4 0 0 0) (by omega) (fun k e => by injection e with e; omega)⟩
theorem rdo_l (A : Option Addr) (c : Nat) (xs : List Ins) (P : Option Addr) (d : Nat) (pk : List Int) (w : World) (hI : Inss w (fun b => b < w.heap.size) A c xs) (hr : Hid (rightP xs = true)) (hl : 65535 < pk.length) (hl2 : pk.length ≤ 1000000) :
    Calls Try.prog 10 #[.slice A xs.length c, .slice P pk.length d] w fun e w' => e = .returned (outA (doP pk xs)) ∧ Below w.heap.size w w' := by
  have HO : Hid (doP pk xs = ⟨3, 0, 0, 0⟩) := Lib.hid (by unfold doP; rw [hr.out, if_pos rfl, if_pos hl])
  go_enter Try.func10, Try.ntmps10
  go_wp2_with fail
  refine (rright_any A c xs _ (hI.alloc _)).mono ?_
  rintro _ w1 ⟨rfl, hb⟩
  rw [hr.out]
  have hz := hb.size
  simp at hz
  have HR : Hid (Bk w1 w.heap.size 30 (outV 0 0 0 0)) := Lib.hid ((Bk.new w 30 (outV 0 0 0 0)).below hb (by simp))
  have cR0 := HR.out.cell 0
  have cR1 := HR.out.cell 1
  have cR2 := HR.out.cell 2
  have cR3 := HR.out.cell 3
  have fR0 := HR.out.frozen 0
  have fR1 := HR.out.frozen 1
  have fR2 := HR.out.frozen 2
  have fR3 := HR.out.frozen 3
  simp only [outV, List.getElem?_cons_zero, List.getElem?_cons_succ] at cR0 cR1 cR2 cR3
  have HB := Lib.hid hb
  clear hb
  have dl : decide ((65535 : Int) < (pk.length : Int)) = true := decide_eq_true (by omega)
  go_wp2_with fail
  exact bodyPost_ret (out_ret w.heap.size ⟨3, 0, 0, 0⟩ _ _ (put_out HR.out 3 0 0 0) rfl) rfl ⟨by rw [HO.out], ((((Below.refl _ _).alloc (Nat.le_refl _) _).trans (HB.out.mono (by simp)))).grown (put_gr w1 w.heap.size 3 0 0 0) (by omega) (fun k e => by injection e with e; omega)⟩
theorem rdoR_any (A : Option Addr) (c : Nat) (xs : List Ins) (P : Option Addr) (d : Nat) (pk : List Int) (w : World) (hI : Inss w (fun b => b < w.heap.size) A c xs) (hP : Rd w w.heap.size P d (u8s pk)) (hpb : Bytes pk) (hl : pk.length ≤ 1000000) (hio : ∀ f ∈ xs, InsOk f) :
    Calls Try.prog 10 #[.slice A xs.length c, .slice P pk.length d] w fun e w' => e = .returned (outA (doP pk xs)) ∧ Below w.heap.size w w' := by
  cases hr : rightP xs with
  | false => exact rdo_f A c xs P d pk w hI (Lib.hid hr)
  | true =>
    by_cases h : 65535 < pk.length
    · exact rdo_l A c xs P d pk w hI (Lib.hid hr) h hl
    · exact rdo_t A c xs P d pk w hI (Lib.hid hr) (by omega) hP hpb (Lib.hid hio)
/-- Are two outcomes the same? -/
def outE (x y : Out) : Bool := decide (x = y)
theorem eql_out (a1 a2 a3 a4 b1 b2 b3 b4 : Int) (w : World) :
    (binOp .eql 30 (.agg #[.int .i64 a1, .int .i64 a2, .int .u64 a3, .int .i64 a4]) (.agg #[.int .i64 b1, .int .i64 b2, .int .u64 b3, .int .i64 b4])).run Try.prog w = .ok (.bool (outE ⟨a1, a2, a3, a4⟩ ⟨b1, b2, b3, b4⟩)) w := by
  have he : outE ⟨a1, a2, a3, a4⟩ ⟨b1, b2, b3, b4⟩ = ((a1 == b1) && ((a2 == b2) && ((a3 == b3) && (a4 == b4)))) := by
    unfold outE
    rw [Bool.eq_iff_iff]
    simp
  rw [he]
  rw [run_eql_struct]
  have h1 : Try.prog.underlying 30 = some (.struct (Try.prog.fieldsOf 30)) := by kernel_rfl
  have h2 : Try.prog.stoodInHeld 30 = false := by kernel_rfl
  rw [run_equalIn_struct w 9999 30 _ _ h1 h2]
  simp [go_sem, Program.fieldsOf, Op.eqFields]
  repeat' split
  all_goals simp_all
def endI (a : Int) : Ins := { op := 9, what := 0, nar := false, d := 0, a := a, b := 0, n := 0, size := 0, «to» := 0 }
def loadI (n : Int) : Ins := { op := 4, what := 0, nar := false, d := 0, a := 1, b := 0, n := n, size := 1, «to» := 0 }
theorem end_any (a : Int) (w : World) : Calls Try.prog 14 #[.int .i64 a] w fun e w' => e = .returned (insA (endI a)) ∧ Below w.heap.size w w' := by
  go_enter Try.func14, Try.ntmps14
  go_wp2_with fail
  exact bodyPost_ret (v := insA (endI a)) (by simp [results, Try.results14, go_sem, insA, insV, endI]) rfl ⟨rfl, (Below.refl _ _).alloc (Nat.le_refl _) _⟩
theorem load_any (n : Int) (w : World) : Calls Try.prog 15 #[.int .u64 n] w fun e w' => e = .returned (insA (loadI n)) ∧ Below w.heap.size w w' := by
  go_enter Try.func15, Try.ntmps15
  go_wp2_with fail
  exact bodyPost_ret (v := insA (loadI n)) (by simp [results, Try.results15, go_sem, insA, insV, loadI]) rfl ⟨rfl, (Below.refl _ _).alloc (Nat.le_refl _) _⟩
/-- Instructions that are a block. -/
def flatV (xs : List Ins) : List Value := xs.flatMap insV
theorem flatV_at : ∀ (xs : List Ins) (i : Nat) (x : Ins), xs[i]? = some x → ∀ j, j < 9 → (flatV xs)[i * 9 + j]? = (insV x)[j]?
  | [], i, x, h, _, _ => by simp at h
  | y :: ys, 0, x, h, j, hj => by
    simp at h
    subst h
    simp only [flatV, List.flatMap_cons, Nat.zero_mul, Nat.zero_add]
    rw [List.getElem?_append_left (by simpa [insV] using hj)]
  | y :: ys, i + 1, x, h, j, hj => by
    simp at h
    have := flatV_at ys i x h j hj
    simp only [flatV, List.flatMap_cons]
    rw [List.getElem?_append_right (by simp [insV]; omega)]
    rw [show (i + 1) * 9 + j - (insV y).length = i * 9 + j by simp [insV]; omega]
    exact this
theorem inss_bk {w : World} {g c : Nat} {xs : List Ins} {ext : List Value} (h : Bk w g 40 (flatV xs ++ ext)) (hc : xs.length ≤ c) (hm : c ≤ maxLen) : Inss w (fun b => b < w.heap.size) (some ⟨g, 0, none⟩) c xs := by
  refine ⟨fun e => (by cases e), hc, hm, fun _ => ⟨_, rfl, h.lt, fun i x hi j hj => ?_⟩⟩
  have hf := flatV_at xs i x hi j hj
  have hl : j < (insV x).length := by simpa [insV] using hj
  have hlt : i * 9 + j < (flatV xs).length := by
    rw [List.getElem?_eq_getElem hl] at hf
    exact (List.getElem?_eq_some_iff.1 hf).1
  rw [show (Addr.add (Addr.add ⟨g, 0, none⟩ (i * 9)) j) = ⟨g, i * 9 + j, none⟩ by unfold Addr.add; split <;> split <;> simp_all]
  rw [h.cell, List.getElem?_append_left hlt, hf]
theorem inss_nil (w : World) : Inss w (fun b => b < w.heap.size) none 0 [] := ⟨fun _ => rfl, Nat.le_refl _, by decide, fun h => absurd rfl h⟩
theorem okE (a : Int) : InsOk (endI a) := ⟨Int.le_refl 0, Int.le_refl 0, (by show (0 : Int) ≤ _; omega)⟩
theorem okL (n : Int) (h0 : 0 ≤ n) (h1 : n ≤ 18446744073709551615) : InsOk (loadI n) := ⟨Int.le_refl 0, h0, h1⟩
end Go.Proofs.Ytbfegghkipoppaa
namespace Go.Proofs.Ytbfegghkipoppaa
open Go.RowKit Go.Shelf
set_option linter.unusedVariables false
set_option maxRecDepth 100000
attribute [local go_sem high] eql_out

theorem okLE : ∀ f ∈ [loadI 1, endI 0], InsOk f := by
  intro f hf
  simp at hf
  rcases hf with rfl | rfl
  · exact okL 1 (by decide) (by decide)
  · exact okE 0
theorem okE2 : ∀ f ∈ [endI 2], InsOk f := by
  intro f hf
  simp at hf
  subst hf
  exact okE 2
instance (xs : List Int) : Decidable (Bytes xs) := by unfold Bytes; exact inferInstance
theorem aw1 : doP [5, 7] [loadI 1, endI 0] = ⟨0, 0, 7, 2⟩ := by decide +kernel
theorem aw2 : doP [5] [loadI 1, endI 0] = ⟨112, 0, 0, 1⟩ := by decide +kernel
theorem aw3 : doP [1, 2, 3] [endI 2] = ⟨0, 0, 3, 1⟩ := by decide +kernel
theorem aw4 : doP [] [] = ⟨4, 0, 0, 0⟩ := by decide +kernel
set_option maxHeartbeats 1000000 in
theorem awake_any (w : World) : Calls Try.prog 6 #[] w fun e w' => e = .returned (.bool true) ∧ Below w.heap.size w w' := by
  have he := fun a W => end_any a W
  have hl := fun n W => load_any n W
  simp only [insA, insV, endI, loadI] at he hl
  have HE := Lib.hid he
  have HL := Lib.hid hl
  clear he hl
  go_enter Try.func6, Try.ntmps6
  go_wp2_with fail
  refine (HL.out 1 _).mono ?_
  rintro _ w1 ⟨rfl, hb1⟩
  have HB1 := Lib.hid hb1
  clear hb1
  go_wp2_with fail
  refine (HE.out 0 _).mono ?_
  rintro _ w2 ⟨rfl, hb2⟩
  have HB2 := Lib.hid hb2
  clear hb2
  go_wp2_with fail
  have hC : Bk (w2.alloc (.cells (flatV [loadI 1, endI 0] ++ []).toArray 40)) w2.heap.size 40 (flatV [loadI 1, endI 0] ++ []) := Bk.new w2 40 _
  have hP : Bk ((w2.alloc (.cells (flatV [loadI 1, endI 0] ++ []).toArray 40)).alloc (.cells (u8s [5, 7]).toArray 5)) (w2.heap.size + 1) 5 (u8s [5, 7]) := by
    have := Bk.new (w2.alloc (.cells (flatV [loadI 1, endI 0] ++ []).toArray 40)) 5 (u8s [5, 7])
    rwa [World.size_alloc] at this
  have hC1 := hC.alloc (.cells (u8s [5, 7]).toArray 5)
  refine (doR_any (some ⟨w2.heap.size, 0, none⟩) 2 [loadI 1, endI 0] (some ⟨w2.heap.size + 1, 0, none⟩) 2 [5, 7] _ (inss_bk hC1 (by decide) (by decide)) (bk_rd hP 2) (by decide) (by decide) okLE).mono ?_
  rintro _ w3 ⟨rfl, hb3⟩
  rw [aw1]
  have hC3 : Bk w3 w2.heap.size 40 (flatV [loadI 1, endI 0] ++ []) := hC1.below hb3 hC1.lt
  have hz3 : w2.heap.size < w3.heap.size := hC3.lt
  have HB3 : Hid (Below w2.heap.size w2 w3) := Lib.hid (((Below.refl _ _).alloc (Nat.le_refl _) _).alloc (by simp) _ |>.trans (hb3.mono (by simp; omega)))
  clear hb3 hC hP hC1
  have HC3 := Lib.hid hC3
  clear hC3
  have q1 : outE ⟨0, 0, 7, 2⟩ ⟨0, 0, 7, 2⟩ = true := by decide
  simp only [outA, outV]
  go_wp2_with fail
  have hP : Bk (w3.alloc (.cells (u8s [5]).toArray 5)) w3.heap.size 5 (u8s [5]) := Bk.new w3 5 _
  have hC1 := HC3.out.alloc (.cells (u8s [5]).toArray 5)
  refine (doR_any (some ⟨w2.heap.size, 0, none⟩) 2 [loadI 1, endI 0] (some ⟨w3.heap.size, 0, none⟩) 1 [5] _ (inss_bk hC1 (by decide) (by decide)) (bk_rd hP 1) (by decide) (by decide) okLE).mono ?_
  rintro _ w4 ⟨rfl, hb4⟩
  rw [aw2]
  have HB4 : Hid (Below w3.heap.size w3 w4) := Lib.hid (((Below.refl _ _).alloc (Nat.le_refl _) _).trans (hb4.mono (by simp)))
  clear hb4 hP hC1 q1
  have q1 : outE ⟨112, 0, 0, 1⟩ ⟨112, 0, 0, 1⟩ = true := by decide
  simp only [outA, outV]
  go_wp2_with fail
  refine (HE.out 2 _).mono ?_
  rintro _ w5 ⟨rfl, hb5⟩
  have HB5 := Lib.hid hb5
  clear hb5
  go_wp2_with fail
  have hC : Bk (w5.alloc (.cells (flatV [endI 2] ++ []).toArray 40)) w5.heap.size 40 (flatV [endI 2] ++ []) := Bk.new w5 40 _
  have hP : Bk ((w5.alloc (.cells (flatV [endI 2] ++ []).toArray 40)).alloc (.cells (u8s [1, 2, 3]).toArray 5)) (w5.heap.size + 1) 5 (u8s [1, 2, 3]) := by
    have := Bk.new (w5.alloc (.cells (flatV [endI 2] ++ []).toArray 40)) 5 (u8s [1, 2, 3])
    rwa [World.size_alloc] at this
  have hC1 := hC.alloc (.cells (u8s [1, 2, 3]).toArray 5)
  refine (doR_any (some ⟨w5.heap.size, 0, none⟩) 1 [endI 2] (some ⟨w5.heap.size + 1, 0, none⟩) 3 [1, 2, 3] _ (inss_bk hC1 (by decide) (by decide)) (bk_rd hP 3) (by decide) (by decide) okE2).mono ?_
  rintro _ w6 ⟨rfl, hb6⟩
  rw [aw3]
  have HB6 : Hid (Below w5.heap.size w5 w6) := Lib.hid (((Below.refl _ _).alloc (Nat.le_refl _) _).alloc (by simp) _ |>.trans (hb6.mono (by simp; omega)))
  clear hb6 hP hC1 hC q1
  have q1 : outE ⟨0, 0, 3, 1⟩ ⟨0, 0, 3, 1⟩ = true := by decide
  simp only [outA, outV]
  go_wp2_with fail
  refine (doR_any none 0 [] none 0 [] _ (inss_nil _) (Rd.none_ _ _ _ _ (fun _ => rfl)) (by decide) (by decide) (fun f hf => by cases hf)).mono ?_
  rintro _ w7 ⟨rfl, hb7⟩
  rw [aw4]
  have HB7 := Lib.hid hb7
  clear hb7 q1
  have q1 : outE ⟨4, 0, 0, 0⟩ ⟨4, 0, 0, 0⟩ = true := by decide
  simp only [outA, outV]
  go_wp2_with fail
  go_ret
  have b1 := HB1.out
  have b2 := HB2.out
  have b3 := HB3.out
  have b4 := HB4.out
  have b5 := HB5.out
  have b6 := HB6.out
  have b7 := HB7.out
  have s1 := b1.size
  have s2 := b2.size
  have s3 := b3.size
  have s4 := b4.size
  have s5 := b5.size
  have s6 := b6.size
  exact ⟨rfl, (((((b1.trans (b2.mono (by omega))).trans (b3.mono (by omega))).trans (b4.mono (by omega))).trans (b5.mono (by omega))).trans (b6.mono (by omega))).trans (b7.mono (by omega))⟩
end Go.Proofs.Ytbfegghkipoppaa
namespace Go.Proofs.Ytbfegghkipoppaa
open Go.RowKit Go.Shelf
set_option linter.unusedVariables false
set_option maxRecDepth 100000

def markI (t : Int) : Ins := { op := 0, what := 0, nar := false, d := 0, a := 0, b := 0, n := 0, size := 0, «to» := t }
def marksI (k : Nat) : List Ins := (List.range k).map fun (i : Nat) => markI (8000024 + (i : Int))
@[simp] theorem marksI_len (k : Nat) : (marksI k).length = k := by simp [marksI]
theorem marksI_succ (k : Nat) : marksI (k + 1) = marksI k ++ [markI (8000024 + (k : Int))] := by simp [marksI, List.range_succ]
theorem flatV_app (a b : List Ins) : flatV (a ++ b) = flatV a ++ flatV b := by simp [flatV]
theorem flatV_single (x : Ins) : flatV [x] = insV x := by simp [flatV]
theorem flatV_len (a : List Ins) : (flatV a).length = a.length * 9 := by
  induction a with
  | nil => rfl
  | cons x xs ih => simp only [flatV, List.flatMap_cons, List.length_append] at *; rw [ih]; simp [insV]; omega
theorem insV_one (x : Ins) : ∀ u ∈ insV x, u.oneCell' = true := by
  intro u hu
  simp [insV] at hu
  rcases hu with rfl | rfl | rfl | rfl | rfl | rfl | rfl | rfl | rfl <;> rfl
theorem flatV_one (xs : List Ins) : ∀ u ∈ flatV xs, u.oneCell' = true := by
  intro u hu
  simp only [flatV, List.mem_flatMap] at hu
  obtain ⟨x, _, hx⟩ := hu
  exact insV_one x u hx
theorem add_add' (a : Addr) (i j : Nat) : (a.add i).add j = a.add (i + j) := by
  unfold Addr.add
  by_cases hi : i = 0
  · subst hi; simp
  · by_cases hj : j = 0
    · subst hj; simp
    · simp [hi, hj]; omega
theorem Inss.cells {w : World} {K : Nat → Prop} {A : Option Addr} {c : Nat} {xs : List Ins} (h : Inss w K A c xs) : ∀ ad, A = some ad → ∀ j u, (flatV xs)[j]? = some u → w.cell? (ad.add j) = some u := by
  intro ad e j u hu
  have hl := (List.getElem?_eq_some_iff.1 hu).1
  rw [flatV_len] at hl
  obtain ⟨a, e', _, hc⟩ := h.2.2.2 (by intro e; subst e; simp at hl)
  rw [e] at e'; injection e' with e'; subst e'
  have hi : j / 9 < xs.length := by omega
  have hx := List.getElem?_eq_getElem hi
  have h1 := hc (j / 9) _ hx (j % 9) (by omega)
  have h2 := flatV_at xs (j / 9) _ hx (j % 9) (by omega)
  rw [show j / 9 * 9 + j % 9 = j by omega, hu] at h2
  rw [add_add', show j / 9 * 9 + j % 9 = j by omega, ← h2] at h1
  exact h1
theorem flat_info : (Try.prog.info? 40).map (fun i => (i.zero, i.size, i.bytes)) = some (some (insA (markI 0)), 9, 56) := by kernel_rfl
theorem own_all9 {w : World} {base e g n cap : Nat} {xs : List Value} (h : w.ownsRow base e 9 (.slice (some ⟨g, 0, none⟩) n cap) n xs) (hc : cap ≤ n) : Bk w g e xs := by
  rcases h.2 with ⟨h', _⟩ | ⟨g', cap', cur, h', _, hg, hnc, hcm, hcs, htake⟩
  · simp at h'
  · simp only [Value.slice.injEq, Option.some.injEq, Addr.mk.injEq, and_true, true_and] at h'
    obtain ⟨rfl, rfl⟩ := h'
    unfold Bk
    rw [hg, ← htake, List.take_of_length_le (by simp; omega)]
theorem markFlat_any (k i : Int) (w : World) (h0 : 0 ≤ k) (h1 : k ≤ 1000000000) (h2 : 0 ≤ i) (h3 : i ≤ 1000000000000000) :
    Calls Try.prog 17 #[.int .i64 k, .int .i64 i] w fun e w' => e = .returned (insA (markI (1000003 * (k + 7) + i))) ∧ Below w.heap.size w w' := by
  go_enter Try.func17, Try.ntmps17
  go_wp2_with fail
  refine (mark_any _ _ _ (by omega) (by omega) (by omega) (by omega)).mono ?_
  rintro _ _ ⟨rfl, rfl⟩
  go_wp2_with fail
  exact bodyPost_ret (v := insA (markI (1000003 * (k + 7) + i))) (by simp [results, Try.results17, go_sem, insA, insV, markI]) rfl ⟨rfl, (Below.refl _ _).alloc (Nat.le_refl _) _⟩
theorem owns_keep {w w' : World} {base e size n : Nat} {v : Value} {xs : List Value} (h : w.ownsRow base e size v n xs) (hk : ∀ g, v.ownBlock = some g → w'.heap[g]? = w.heap[g]?) : w'.ownsRow base e size v n xs := by
  refine ⟨h.1, ?_⟩
  rcases h.2 with h' | ⟨g, cap, cur, rfl, hb, hg, h1, h2, h3, h4⟩
  · exact .inl h'
  · exact .inr ⟨g, cap, cur, rfl, hb, (hk g rfl).trans hg, h1, h2, h3, h4⟩
theorem owns_lt {w : World} {base e size n : Nat} {v : Value} {xs : List Value} (h : w.ownsRow base e size v n xs) : ∀ g, v.ownBlock = some g → g < w.heap.size := by
  intro g hg
  rcases h.2 with ⟨h', _⟩ | ⟨g', cap, cur, rfl, hb, hg', _⟩
  · rw [h'] at hg; cases hg
  · injection hg with hg
    subst hg
    exact (Array.getElem?_eq_some_iff.1 hg').1
theorem news_new (w : World) (xs : List Value) (t : TypeId) : ∀ j u, xs[j]? = some u → (w.alloc (.cells xs.toArray t)).cell? (Addr.add ⟨w.heap.size, 0, none⟩ j) = some u := by
  intro j u hu
  rw [show Addr.add ⟨w.heap.size, 0, none⟩ j = ⟨w.heap.size, j, none⟩ by unfold Addr.add; split <;> simp_all]
  exact ((Bk.new w t xs).cell j).trans hu
set_option maxHeartbeats 1000000 in
theorem lentF_any (A : Option Addr) (c : Nat) (xs : List Ins) (w : World) (ha : Inss w (fun b => b < w.heap.size) A c xs) (hn : xs.length ≤ 1000000) :
    Calls Try.prog 7 #[.slice A xs.length c] w fun e w' => e = .returned (.slice (some ⟨w.heap.size, 0, none⟩) xs.length (xs.length + 12)) ∧
      Bk w' w.heap.size 40 (flatV (xs ++ marksI 12)) ∧ Below w.heap.size w w' := by
  obtain ⟨i0, hi, hz0, hz1, hz2⟩ := info_parts flat_info
  have HA := Lib.hid ha
  clear ha
  go_enter Try.func7, Try.ntmps7
  go_wp2_with (first
   | (at_make; refine wpList_make_own _ rfl _ _ 22 rfl w.heap.size 40 i0 _ 9 Try.underlying22 hi hz0 hz1 _ _ _ (xs.length + 12) rfl rfl (by omega) (by rw [hz2]; omega) (by unfold maxLen; omega) (by omega) ?_; intro w1 hown1 hgrow1; have hb1 := (Below.refl w.heap.size w).grown hgrow1 (Nat.le_refl _) (by simp))
   | (at_builtin; refine wpList_append_fits_any _ rfl (.tmp 9) (.tmp 10) 22 rfl w.heap.size 40 i0 9 Try.underlying22 hi hz1 w.heap.size 0 (xs.length + 12) [] rfl hown1 A xs.length c (flatV xs) rfl (by rw [flatV_len]) (by intro e; have := HA.out.1 e; have := HA.out.2.1; omega) (HA.out.below hb1).cells (flatV_one _) (by omega) ?_; intro w2 hown2 hgrow2))
  clear hgrow1 hown1
  have hb2 := hb1.grown hgrow2 hb1.size (by intro k e; injection e with e; omega)
  simp only [Nat.zero_add, List.nil_append] at hown2
  clear hgrow2
  go_loopw [3, 4] (fun v i wr => ∃ k : Nat, k ≤ 12 ∧ i = .int .i64 k ∧ v = .slice (some ⟨w.heap.size, 0, none⟩) (xs.length + k) (xs.length + 12) ∧ wr.ownsRow w.heap.size 40 9 (.slice (some ⟨w.heap.size, 0, none⟩) (xs.length + k) (xs.length + 12)) (xs.length + k) (flatV (xs ++ marksI k)) ∧ Below w.heap.size w wr) (fun _ i _ => 12 - (intOf i).toNat)
  case atStart => exact ⟨0, Nat.zero_le _, rfl, rfl, by simpa [marksI] using hown2, hb2⟩
  case round =>
    clear hb2 hb1 hown2
    obtain ⟨k, hk, rfl, rfl, hown, hb⟩ := hrel
    by_cases hlt : k < 12
    · have hcon := fun W => markFlat_any 1 k W (by omega) (by omega) (by omega) (by omega)
      simp only [insA, insV, markI] at hcon
      have HC := Lib.hid hcon
      clear hcon
      go_wp2_with fail
      refine (HC.out _).mono ?_
      rintro _ w2 ⟨rfl, hb2⟩
      have hgl : w.heap.size < wr.heap.size := owns_lt hown _ rfl
      have hsz := hb2.size
      have hown2 : ∀ o, (w2.alloc o).ownsRow w.heap.size 40 9 (.slice (some ⟨w.heap.size, 0, none⟩) (xs.length + k) (xs.length + 12)) (xs.length + k) (flatV (xs ++ marksI k)) := fun o => owns_keep hown (fun g e => by injection e with e; subst e; exact (Below.heap_alloc w2 o _ (by show w.heap.size < _; omega)).trans (hb2.block _ hgl))
      go_wp2_with (at_builtin; refine wpList_append_fits _ rfl (.tmp 16) (.tmp 19) 22 rfl w.heap.size 40 i0 9 Try.underlying22 hi hz1 w.heap.size (xs.length + k) (xs.length + 12) (flatV (xs ++ marksI k)) rfl (hown2 _) ⟨w2.heap.size, 0, none⟩ 1 1 (insV (markI (8000024 + (k : Int)))) rfl rfl (news_new w2 (insV (markI (8000024 + (k : Int)))) 40) (insV_one _) (by omega) ?_)
      intro w3 hown3 hgrow3
      have hb3 := ((hb.trans (hb2.mono hb.size)).alloc (by omega) _).grown hgrow3 (by simp; omega) (by intro k e; injection e with e; omega)
      have HO3 : Hid (w3.ownsRow w.heap.size 40 9 (.slice (some ⟨w.heap.size, 0, none⟩) (xs.length + (k + 1)) (xs.length + 12)) (xs.length + (k + 1)) (flatV (xs ++ marksI (k + 1)))) := Lib.hid (by rw [marksI_succ, ← List.append_assoc, flatV_app, flatV_single]; exact hown3)
      have HB3 := Lib.hid hb3
      clear hown3 hgrow3 hb3 hown2 hb2 hown hb
      go_wp2
      go_roundw
      case rel => exact ⟨k + 1, by omega, by go_num, rfl, HO3.out, HB3.out⟩
      case measure => simp [intOf]; omega
    · obtain rfl : k = 12 := by omega
      go_wp2
      go_ret
      exact ⟨rfl, own_all9 hown (by omega), hb⟩
end Go.Proofs.Ytbfegghkipoppaa
namespace Go.Proofs.Ytbfegghkipoppaa
open Go.RowKit Go.Shelf
set_option linter.unusedVariables false
set_option maxRecDepth 100000
attribute [local go_sem high] eql_ins
theorem insE_same (x : Ins) : insE x x = true := decide_eq_true rfl
set_option linter.unusedSimpArgs false in
set_option maxHeartbeats 2000000 in
theorem keptF_true (g : Nat) (B : Option Addr) (d : Nat) (ys : List Ins) (w : World) (ho : Bk w g 40 (flatV (ys ++ marksI 12))) (hb : Inss w (fun b => b < w.heap.size) B d ys) (hm : ys.length ≤ 1000000) :
    Calls Try.prog 11 #[.slice (some ⟨g, 0, none⟩) ys.length (ys.length + 12), .slice B ys.length d] w fun e w' => e = .returned (.bool true) ∧ Below w.heap.size w w' := by
  have HO := Lib.hid ho
  have HB := Lib.hid hb
  clear ho hb
  go_enter Try.func11, Try.ntmps11
  go_wp2
  go_loopw [6] (fun i wr => ∃ k : Nat, k ≤ ys.length + 12 ∧ i = .int .i64 k ∧ Below w.heap.size w wr) (fun i _ => ys.length + 12 - (intOf i).toNat)
  case atStart => exact ⟨0, Nat.zero_le _, rfl, Below.refl _ _⟩
  case round =>
    obtain ⟨k, hk, rfl, hbr⟩ := hrel
    have hbs := hbr.size
    by_cases hlt : k < ys.length + 12
    · have hgb := HO.out.below hbr HO.out.lt
      have hx : ∃ x, Hid ((ys ++ marksI 12)[k]? = some x) := ⟨_, List.getElem?_eq_getElem (by simp; omega)⟩
      obtain ⟨x, hx⟩ := hx
      have hcw : ∀ j, j < 9 → wr.cell? ((Addr.add ⟨g, 0, none⟩ (k * 9)).add j) = (insV x)[j]? := fun j hj => by
        rw [add_add', show Addr.add ⟨g, 0, none⟩ (k * 9 + j) = ⟨g, k * 9 + j, none⟩ by unfold Addr.add; split <;> simp_all, hgb.cell]
        exact flatV_at _ _ _ hx.out j hj
      obtain ⟨e0, e1, e2, e3, e4, e5, e6, e7, e8⟩ := flat9 hcw
      simp only [add_at] at e0 e1 e2 e3 e4 e5 e6 e7 e8
      have HBR := Lib.hid hbr
      have hgl : g < wr.heap.size := hgb.lt
      clear hcw hgb hbr
      by_cases hl : k < ys.length
      · obtain ⟨b, y, rfl, hbl, hy, hc⟩ := (HB.out.below HBR.out).at_ hl
        have hxy : x = y := by have h1 := hx.out; rw [List.getElem?_append_left hl, hy.out] at h1; injection h1 with h1; exact h1.symm
        subst hxy
        obtain ⟨f0, f1, f2, f3, f4, f5, f6, f7, f8⟩ := flat9 hc
        have d1 : decide (k < ys.length) = true := decide_eq_true hl
        have d2 : decide (ys.length ≤ k) = false := decide_eq_false (by omega)
        have q := insE_same ⟨x.op, x.what, x.nar, x.d, x.a, x.b, x.n, x.size, x.to⟩
        clear hc
        go_wp2
        go_quiet (fail)
        go_wp2
        go_roundw
        case rel => exact ⟨k + 1, by omega, by go_num, HBR.out.trans ⟨rfl, rfl, rfl, Nat.le_refl _, fun _ _ => rfl⟩⟩
        case measure => simp [intOf]; omega
      · have d1 : decide (k < ys.length) = false := decide_eq_false hl
        have d2 : decide (ys.length ≤ k) = true := decide_eq_true (by omega)
        have hxm : x = markI (8000024 + ((k : Int) - ys.length)) := by
          have h1 := hx.out
          rw [List.getElem?_append_right (by omega)] at h1
          simp [marksI, show k - ys.length < 12 by omega, show (((k - ys.length : Nat) : Int)) = (k : Int) - ys.length by omega] at h1
          exact h1.symm
        have hcon := fun W => markFlat_any 1 ((k : Int) - ys.length) W (by omega) (by omega) (by omega) (by omega)
        simp only [insA, insV, show (1000003 * ((1 : Int) + 7) + ((k : Int) - ys.length)) = 8000024 + ((k : Int) - ys.length) by omega, ← hxm] at hcon
        have HC := Lib.hid hcon
        have q := insE_same ⟨x.op, x.what, x.nar, x.d, x.a, x.b, x.n, x.size, x.to⟩
        have HX := Lib.hid hxm
        have i1 : (0 : Int) ≤ (k : Int) := by omega
        have i2 : (k : Int) < (ys.length : Int) + 12 := by omega
        have i3 : ((k : Int)).toNat = k := by omega
        have i4 : IntKind.i64.wrap ((k : Int) - ys.length) = (k : Int) - ys.length := IntWalk.i64_in _ (by omega)
        clear hcon hxm
        go_wp2
        refine wp_region_held_drew (S := fun w' => w'.cell? ⟨g, k * 9, none⟩ = some (.int .u8 x.op) ∧ w'.cell? ⟨g, k * 9 + 1, none⟩ = some (.int .u8 x.what) ∧ w'.cell? ⟨g, k * 9 + 2, none⟩ = some (.bool x.nar) ∧ w'.cell? ⟨g, k * 9 + 3, none⟩ = some (.int .i64 x.d) ∧ w'.cell? ⟨g, k * 9 + 4, none⟩ = some (.int .i64 x.a) ∧ w'.cell? ⟨g, k * 9 + 5, none⟩ = some (.int .i64 x.b) ∧ w'.cell? ⟨g, k * 9 + 6, none⟩ = some (.int .u64 x.n) ∧ w'.cell? ⟨g, k * 9 + 7, none⟩ = some (.int .i64 x.size) ∧ w'.cell? ⟨g, k * 9 + 8, none⟩ = some (.int .i64 x.to)) (by kernel_rfl) ⟨e0, e1, e2, e3, e4, e5, e6, e7, e8⟩ (fun hS => ?_)
        refine wpAnyH_take (i := 0) (v := ?_) rfl (by kernel_rfl) (by kernel_rfl) (by kernel_rfl) (fun _ _ _ h => h) (Or.inl ⟨by rfl, ?_⟩) hS ?_
        rotate_left 1
        · intro w' hSw
          go_simp <;> with_reducible rfl
        try simp only [List.getElem_toArray, List.getElem_cons_zero, List.getElem_cons_succ, Act.put, List.setIfInBounds_toArray, List.set_cons_zero, List.set_cons_succ]
        refine wpAnyH_take (i := 1) (v := ?_) rfl (by kernel_rfl) (by kernel_rfl) (by kernel_rfl) (fun _ _ _ h => h) (Or.inl ⟨by rfl, ?_⟩) hS ?_
        rotate_left 1
        · intro w' hSw
          go_simp <;> with_reducible rfl
        try simp only [List.getElem_toArray, List.getElem_cons_zero, List.getElem_cons_succ, Act.put, List.setIfInBounds_toArray, List.set_cons_zero, List.set_cons_succ]
        refine wpAnyH_take (i := 2) (v := ?_) rfl (by kernel_rfl) (by kernel_rfl) (by kernel_rfl) (fun _ _ _ h => h) (Or.inl ⟨by rfl, ?_⟩) hS ?_
        rotate_left 1
        · intro w' hSw
          go_simp <;> with_reducible rfl
        try simp only [List.getElem_toArray, List.getElem_cons_zero, List.getElem_cons_succ, Act.put, List.setIfInBounds_toArray, List.set_cons_zero, List.set_cons_succ]
        refine wpAnyH_take (i := 3) (v := ?_) rfl (by kernel_rfl) (by kernel_rfl) (by kernel_rfl) (fun _ _ _ h => h) (Or.inl ⟨by rfl, ?_⟩) hS ?_
        rotate_left 1
        · intro w' hSw
          go_simp <;> with_reducible rfl
        try simp only [List.getElem_toArray, List.getElem_cons_zero, List.getElem_cons_succ, Act.put, List.setIfInBounds_toArray, List.set_cons_zero, List.set_cons_succ]
        refine wpAnyH_take (i := 4) (v := ?_) rfl (by kernel_rfl) (by kernel_rfl) (by kernel_rfl) (fun _ _ _ h => h) (Or.inl ⟨by rfl, ?_⟩) hS ?_
        rotate_left 1
        · intro w' hSw
          go_simp <;> with_reducible rfl
        try simp only [List.getElem_toArray, List.getElem_cons_zero, List.getElem_cons_succ, Act.put, List.setIfInBounds_toArray, List.set_cons_zero, List.set_cons_succ]
        refine wpAnyH_take (i := 5) (v := undef) rfl (by kernel_rfl) (by kernel_rfl) (by kernel_rfl) (fun _ _ _ h => h) (Or.inr ⟨by go_simp, rfl⟩) hS ?_
        try simp only [List.getElem_toArray, List.getElem_cons_zero, List.getElem_cons_succ, Act.put, List.setIfInBounds_toArray, List.set_cons_zero, List.set_cons_succ]
        refine wpAnyH_take (i := 6) (v := undef) rfl (by kernel_rfl) (by kernel_rfl) (by kernel_rfl) (fun _ _ _ h => h) (Or.inr ⟨by go_simp, rfl⟩) hS ?_
        try simp only [List.getElem_toArray, List.getElem_cons_zero, List.getElem_cons_succ, Act.put, List.setIfInBounds_toArray, List.set_cons_zero, List.set_cons_succ]
        refine wpAnyH_take (i := 7) (v := undef) rfl (by kernel_rfl) (by kernel_rfl) (by kernel_rfl) (fun _ _ _ h => h) (Or.inr ⟨by go_simp, rfl⟩) hS ?_
        try simp only [List.getElem_toArray, List.getElem_cons_zero, List.getElem_cons_succ, Act.put, List.setIfInBounds_toArray, List.set_cons_zero, List.set_cons_succ]
        refine wpAnyH_take (i := 8) (v := undef) rfl (by kernel_rfl) (by kernel_rfl) (by kernel_rfl) (fun _ _ _ h => h) (Or.inr ⟨by go_simp, rfl⟩) hS ?_
        try simp only [List.getElem_toArray, List.getElem_cons_zero, List.getElem_cons_succ, Act.put, List.setIfInBounds_toArray, List.set_cons_zero, List.set_cons_succ]
        refine wpAnyH_take (i := 9) (v := undef) rfl (by kernel_rfl) (by kernel_rfl) (by kernel_rfl) (fun _ _ _ h => h) (Or.inr ⟨by go_simp, rfl⟩) hS ?_
        try simp only [List.getElem_toArray, List.getElem_cons_zero, List.getElem_cons_succ, Act.put, List.setIfInBounds_toArray, List.set_cons_zero, List.set_cons_succ]
        refine wpAnyH_take (i := 10) (v := undef) rfl (by kernel_rfl) (by kernel_rfl) (by kernel_rfl) (fun _ _ _ h => h) (Or.inr ⟨by go_simp, rfl⟩) hS ?_
        try simp only [List.getElem_toArray, List.getElem_cons_zero, List.getElem_cons_succ, Act.put, List.setIfInBounds_toArray, List.set_cons_zero, List.set_cons_succ]
        refine wpAnyH_take (i := 11) (v := undef) rfl (by kernel_rfl) (by kernel_rfl) (by kernel_rfl) (fun _ _ _ h => h) (Or.inr ⟨by go_simp, rfl⟩) hS ?_
        try simp only [List.getElem_toArray, List.getElem_cons_zero, List.getElem_cons_succ, Act.put, List.setIfInBounds_toArray, List.set_cons_zero, List.set_cons_succ]
        refine wpAnyH_take (i := 12) (v := undef) rfl (by kernel_rfl) (by kernel_rfl) (by kernel_rfl) (fun _ _ _ h => h) (Or.inr ⟨by go_simp, rfl⟩) hS ?_
        try simp only [List.getElem_toArray, List.getElem_cons_zero, List.getElem_cons_succ, Act.put, List.setIfInBounds_toArray, List.set_cons_zero, List.set_cons_succ]
        refine wpAnyH_take (i := 13) (v := undef) rfl (by kernel_rfl) (by kernel_rfl) (by kernel_rfl) (fun _ _ _ h => h) (Or.inr ⟨by go_simp, rfl⟩) hS ?_
        try simp only [List.getElem_toArray, List.getElem_cons_zero, List.getElem_cons_succ, Act.put, List.setIfInBounds_toArray, List.set_cons_zero, List.set_cons_succ]
        refine wpAnyH_take (i := 14) (v := undef) rfl (by kernel_rfl) (by kernel_rfl) (by kernel_rfl) (fun _ _ _ h => h) (Or.inr ⟨by go_simp, rfl⟩) hS ?_
        try simp only [List.getElem_toArray, List.getElem_cons_zero, List.getElem_cons_succ, Act.put, List.setIfInBounds_toArray, List.set_cons_zero, List.set_cons_succ]
        refine wpAnyH_take (i := 15) (v := ?_) rfl (by kernel_rfl) (by kernel_rfl) (by kernel_rfl) (fun _ _ _ h => h) (Or.inl ⟨by rfl, ?_⟩) hS ?_
        rotate_left 1
        · intro w' hSw
          go_simp <;> with_reducible rfl
        try simp only [List.getElem_toArray, List.getElem_cons_zero, List.getElem_cons_succ, Act.put, List.setIfInBounds_toArray, List.set_cons_zero, List.set_cons_succ]
        refine wpAnyH_take (i := 16) (v := ?_) rfl (by kernel_rfl) (by kernel_rfl) (by kernel_rfl) (fun _ _ _ h => h) (Or.inl ⟨by rfl, ?_⟩) hS ?_
        rotate_left 1
        · intro w' hSw
          go_simp <;> with_reducible rfl
        try simp only [List.getElem_toArray, List.getElem_cons_zero, List.getElem_cons_succ, Act.put, List.setIfInBounds_toArray, List.set_cons_zero, List.set_cons_succ]
        refine wpAnyH_take (i := 17) (v := ?_) rfl (by kernel_rfl) (by kernel_rfl) (by kernel_rfl) (fun _ _ _ h => h) (Or.inl ⟨by go_simp, ?_⟩) hS ?_
        rotate_left 1
        · intro w' hSw
          go_simp <;> with_reducible rfl
        try simp only [List.getElem_toArray, List.getElem_cons_zero, List.getElem_cons_succ, Act.put, List.setIfInBounds_toArray, List.set_cons_zero, List.set_cons_succ]
        refine wpAnyH_take (i := 18) (v := ?_) rfl (by kernel_rfl) (by kernel_rfl) (by kernel_rfl) (fun _ _ _ h => h) (Or.inl ⟨by go_simp, ?_⟩) hS ?_
        rotate_left 1
        · intro w' hSw
          go_simp <;> with_reducible rfl
        try simp only [List.getElem_toArray, List.getElem_cons_zero, List.getElem_cons_succ, Act.put, List.setIfInBounds_toArray, List.set_cons_zero, List.set_cons_succ]
        refine wpAnyH_take (i := 19) (v := ?_) rfl (by kernel_rfl) (by kernel_rfl) (by kernel_rfl) (fun _ _ _ h => h) (Or.inl ⟨by go_simp, ?_⟩) hS ?_
        rotate_left 1
        · intro w' hSw
          go_simp <;> with_reducible rfl
        try simp only [List.getElem_toArray, List.getElem_cons_zero, List.getElem_cons_succ, Act.put, List.setIfInBounds_toArray, List.set_cons_zero, List.set_cons_succ]
        refine wpAnyH_take (i := 20) (v := ?_) rfl (by kernel_rfl) (by kernel_rfl) (by kernel_rfl) (fun _ _ _ h => h) (Or.inl ⟨by go_simp, ?_⟩) hS ?_
        rotate_left 1
        · intro w' hSw
          go_simp <;> with_reducible rfl
        try simp only [List.getElem_toArray, List.getElem_cons_zero, List.getElem_cons_succ, Act.put, List.setIfInBounds_toArray, List.set_cons_zero, List.set_cons_succ]
        refine wpAnyH_take (i := 21) (v := ?_) rfl (by kernel_rfl) (by kernel_rfl) (by kernel_rfl) (fun _ _ _ h => h) (Or.inl ⟨by go_simp, ?_⟩) hS ?_
        rotate_left 1
        · intro w' hSw
          go_simp <;> with_reducible rfl
        try simp only [List.getElem_toArray, List.getElem_cons_zero, List.getElem_cons_succ, Act.put, List.setIfInBounds_toArray, List.set_cons_zero, List.set_cons_succ]
        refine wpAnyH_take (i := 22) (v := ?_) rfl (by kernel_rfl) (by kernel_rfl) (by kernel_rfl) (fun _ _ _ h => h) (Or.inl ⟨by go_simp, ?_⟩) hS ?_
        rotate_left 1
        · intro w' hSw
          go_simp <;> with_reducible rfl
        try simp only [List.getElem_toArray, List.getElem_cons_zero, List.getElem_cons_succ, Act.put, List.setIfInBounds_toArray, List.set_cons_zero, List.set_cons_succ]
        refine wpAnyH_take (i := 23) (v := ?_) rfl (by kernel_rfl) (by kernel_rfl) (by kernel_rfl) (fun _ _ _ h => h) (Or.inl ⟨by go_simp, ?_⟩) hS ?_
        rotate_left 1
        · intro w' hSw
          go_simp <;> with_reducible rfl
        try simp only [List.getElem_toArray, List.getElem_cons_zero, List.getElem_cons_succ, Act.put, List.setIfInBounds_toArray, List.set_cons_zero, List.set_cons_succ]
        refine wpAnyH_take (i := 24) (v := ?_) rfl (by kernel_rfl) (by kernel_rfl) (by kernel_rfl) (fun _ _ _ h => h) (Or.inl ⟨by go_simp, ?_⟩) hS ?_
        rotate_left 1
        · intro w' hSw
          go_simp <;> with_reducible rfl
        try simp only [List.getElem_toArray, List.getElem_cons_zero, List.getElem_cons_succ, Act.put, List.setIfInBounds_toArray, List.set_cons_zero, List.set_cons_succ]
        refine wpAnyH_take (i := 25) (v := ?_) rfl (by kernel_rfl) (by kernel_rfl) (by kernel_rfl) (fun _ _ _ h => h) (Or.inl ⟨by go_simp, ?_⟩) hS ?_
        rotate_left 1
        · intro w' hSw
          go_simp <;> with_reducible rfl
        try simp only [List.getElem_toArray, List.getElem_cons_zero, List.getElem_cons_succ, Act.put, List.setIfInBounds_toArray, List.set_cons_zero, List.set_cons_succ]
        refine wpAnyH_take (i := 26) (v := ?_) rfl (by kernel_rfl) (by kernel_rfl) (by kernel_rfl) (fun _ _ _ h => h) (Or.inl ⟨by go_simp, ?_⟩) hS ?_
        rotate_left 1
        · intro w' hSw
          go_simp <;> with_reducible rfl
        try simp only [List.getElem_toArray, List.getElem_cons_zero, List.getElem_cons_succ, Act.put, List.setIfInBounds_toArray, List.set_cons_zero, List.set_cons_succ]
        refine wpAnyH_take (i := 27) (v := ?_) rfl (by kernel_rfl) (by kernel_rfl) (by kernel_rfl) (fun _ _ _ h => h) (Or.inl ⟨by go_simp, ?_⟩) hS ?_
        rotate_left 1
        · intro w' hSw
          go_simp <;> with_reducible rfl
        try simp only [List.getElem_toArray, List.getElem_cons_zero, List.getElem_cons_succ, Act.put, List.setIfInBounds_toArray, List.set_cons_zero, List.set_cons_succ]
        refine wpAnyH_take (i := 28) (v := ?_) rfl (by kernel_rfl) (by kernel_rfl) (by kernel_rfl) (fun _ _ _ h => h) (Or.inl ⟨by go_simp, ?_⟩) hS ?_
        rotate_left 1
        · intro w' hSw
          go_simp <;> with_reducible rfl
        try simp only [List.getElem_toArray, List.getElem_cons_zero, List.getElem_cons_succ, Act.put, List.setIfInBounds_toArray, List.set_cons_zero, List.set_cons_succ]
        refine wpAnyH_take (i := 29) (v := ?_) rfl (by kernel_rfl) (by kernel_rfl) (by kernel_rfl) (fun _ _ _ h => h) (Or.inl ⟨by go_simp, ?_⟩) hS ?_
        rotate_left 1
        · intro w' hSw
          go_simp <;> with_reducible rfl
        try simp only [List.getElem_toArray, List.getElem_cons_zero, List.getElem_cons_succ, Act.put, List.setIfInBounds_toArray, List.set_cons_zero, List.set_cons_succ]
        refine wpAnyH_ready (rs := [30]) (by kernel_rfl) (by simp) (AllReadyH.cons rfl (fun K hK => ?_) AllReadyH.nil)
        go_simp
        refine (HC.out _).mono ?_
        rintro _ w2 ⟨rfl, hb2⟩
        have hS2 : w2.cell? ⟨g, k * 9, none⟩ = some (.int .u8 x.op) ∧ w2.cell? ⟨g, k * 9 + 1, none⟩ = some (.int .u8 x.what) ∧ w2.cell? ⟨g, k * 9 + 2, none⟩ = some (.bool x.nar) ∧ w2.cell? ⟨g, k * 9 + 3, none⟩ = some (.int .i64 x.d) ∧ w2.cell? ⟨g, k * 9 + 4, none⟩ = some (.int .i64 x.a) ∧ w2.cell? ⟨g, k * 9 + 5, none⟩ = some (.int .i64 x.b) ∧ w2.cell? ⟨g, k * 9 + 6, none⟩ = some (.int .u64 x.n) ∧ w2.cell? ⟨g, k * 9 + 7, none⟩ = some (.int .i64 x.size) ∧ w2.cell? ⟨g, k * 9 + 8, none⟩ = some (.int .i64 x.to) := ⟨(hb2.cell (p := ⟨g, k * 9, none⟩) hgl).trans e0, (hb2.cell (p := ⟨g, k * 9 + 1, none⟩) hgl).trans e1, (hb2.cell (p := ⟨g, k * 9 + 2, none⟩) hgl).trans e2, (hb2.cell (p := ⟨g, k * 9 + 3, none⟩) hgl).trans e3, (hb2.cell (p := ⟨g, k * 9 + 4, none⟩) hgl).trans e4, (hb2.cell (p := ⟨g, k * 9 + 5, none⟩) hgl).trans e5, (hb2.cell (p := ⟨g, k * 9 + 6, none⟩) hgl).trans e6, (hb2.cell (p := ⟨g, k * 9 + 7, none⟩) hgl).trans e7, (hb2.cell (p := ⟨g, k * 9 + 8, none⟩) hgl).trans e8⟩
        go_simp
        refine hK _ _ hS2 (fun hS => ?_)
        clear hK K
        try simp only [List.getElem_toArray, List.getElem_cons_zero, List.getElem_cons_succ, Act.put, List.setIfInBounds_toArray, List.set_cons_zero, List.set_cons_succ]
        refine wpAnyH_take (i := 31) (v := ?_) rfl (by kernel_rfl) (by kernel_rfl) (by kernel_rfl) (fun _ _ _ h => h) (Or.inl ⟨by go_simp, ?_⟩) hS ?_
        rotate_left 1
        · intro w' hSw
          go_simp <;> with_reducible rfl
        try simp only [List.getElem_toArray, List.getElem_cons_zero, List.getElem_cons_succ, Act.put, List.setIfInBounds_toArray, List.set_cons_zero, List.set_cons_succ]
        refine wpAnyH_take (i := 32) (v := ?_) rfl (by kernel_rfl) (by kernel_rfl) (by kernel_rfl) (fun _ _ _ h => h) (Or.inl ⟨by go_simp, ?_⟩) hS ?_
        rotate_left 1
        · intro w' hSw
          go_simp <;> with_reducible rfl
        try simp only [List.getElem_toArray, List.getElem_cons_zero, List.getElem_cons_succ, Act.put, List.setIfInBounds_toArray, List.set_cons_zero, List.set_cons_succ]
        refine wpAnyH_take (i := 33) (v := ?_) rfl (by kernel_rfl) (by kernel_rfl) (by kernel_rfl) (fun _ _ _ h => h) (Or.inl ⟨by go_simp, ?_⟩) hS ?_
        rotate_left 1
        · intro w' hSw
          go_simp <;> with_reducible rfl
        try simp only [List.getElem_toArray, List.getElem_cons_zero, List.getElem_cons_succ, Act.put, List.setIfInBounds_toArray, List.set_cons_zero, List.set_cons_succ]
        refine wpAnyH_take (i := 34) (v := ?_) rfl (by kernel_rfl) (by kernel_rfl) (by kernel_rfl) (fun _ _ _ h => h) (Or.inl ⟨by rfl, ?_⟩) hS ?_
        rotate_left 1
        · intro w' hSw
          go_simp <;> with_reducible rfl
        try simp only [List.getElem_toArray, List.getElem_cons_zero, List.getElem_cons_succ, Act.put, List.setIfInBounds_toArray, List.set_cons_zero, List.set_cons_succ]
        refine wpAnyH_done (by kernel_rfl) ?_ _
        have HB2 := Lib.hid hb2
        clear hb2 hS2 hS
        go_wp2
        go_roundw
        case rel => exact ⟨k + 1, by omega, by go_num, HBR.out.trans (((Below.refl _ _).drew.trans HB2.out).mono hbs)⟩
        case measure => simp [intOf]; omega
    · obtain rfl : k = ys.length + 12 := by omega
      go_wp2
      go_ret
      exact ⟨rfl, hbr⟩
end Go.Proofs.Ytbfegghkipoppaa
namespace Go.Proofs.Ytbfegghkipoppaa
open Go.RowKit Go.Shelf
set_option linter.unusedVariables false
set_option maxRecDepth 100000
section
attribute [local go_sem high] eql_out
theorem outE_same (x : Out) : outE x x = true := decide_eq_true rfl
set_option maxHeartbeats 2000000 in
theorem RunTells_any (A : Option Addr) (c : Nat) (xs : List Ins) (P : Option Addr) (d : Nat) (pk : List Int) (w : World) (hI : Inss w (fun b => b < w.heap.size) A c xs) (hio : ∀ f ∈ xs, InsOk f) (hP : Rd w w.heap.size P d (u8s pk)) (hpb : Bytes pk) (hpl : pk.length ≤ 9223372036854775807) :
    Calls Try.prog 3 #[.slice A xs.length c, .slice P pk.length d] w fun e w' => e = .returned (.bool true) ∧ Below w.heap.size w w' := by
  have hxl : xs.length ≤ 9223372036854775807 := by have h1 := hI.2.1; have h2 := hI.2.2.1; unfold maxLen at h2; omega
  have HI := Lib.hid hI
  have HP := Lib.hid hP
  have HIO := Lib.hid hio
  have HPB := Lib.hid hpb
  clear hI hP hio hpb
  by_cases h1 : 2000 < xs.length
  · have d1 : decide ((2000 : Int) < (xs.length : Int)) = true := decide_eq_true (by omega)
    go_enter Try.func3, Try.ntmps3
    go_wp2_with fail
    refine (awake_any w).mono ?_
    rintro _ w1 ⟨rfl, hb⟩
    go_wp2_with fail
    go_ret
    exact ⟨rfl, hb⟩
  have d1 : decide ((2000 : Int) < (xs.length : Int)) = false := decide_eq_false (by omega)
  by_cases h2 : 2000 < pk.length
  · have d2 : decide ((2000 : Int) < (pk.length : Int)) = true := decide_eq_true (by omega)
    go_enter Try.func3, Try.ntmps3
    go_wp2_with fail
    refine (awake_any w).mono ?_
    rintro _ w1 ⟨rfl, hb⟩
    go_wp2_with fail
    go_ret
    exact ⟨rfl, hb⟩
  have d2 : decide ((2000 : Int) < (pk.length : Int)) = false := decide_eq_false (by omega)
  go_enter Try.func3, Try.ntmps3
  go_wp2_with fail
  refine (lentF_any A c xs w HI.out (by omega)).mono ?_
  rintro _ w1 ⟨rfl, hF1, hb1⟩
  have HI1 := Lib.hid (HI.out.below hb1)
  have HP1 := Lib.hid ((HP.out.below hb1).mono hb1.size)
  have HF1 := Lib.hid hF1
  have HB1 := Lib.hid hb1
  clear hF1 hb1
  go_wp2_with fail
  refine (lent_any P d pk w1 HP1.out (by omega)).mono ?_
  rintro _ w2 ⟨rfl, hL2, hb2⟩
  have HI2 := Lib.hid (HI1.out.below hb2)
  have HP2 := Lib.hid ((HP1.out.below hb2).mono hb2.size)
  have HF2 := Lib.hid (HF1.out.below hb2 HF1.out.lt)
  have HL2 := Lib.hid hL2
  have HB2 := Lib.hid hb2
  clear hL2 hb2
  go_wp2_with fail
  have hin : Inss w2 (fun b => b < w2.heap.size) (some ⟨w.heap.size, 0, none⟩) (xs.length + 12) xs := inss_bk (ext := flatV (marksI 12)) (by rw [← flatV_app]; exact HF2.out) (by omega) (by unfold maxLen; omega)
  have hpk : Rd w2 w2.heap.size (some ⟨w1.heap.size, 0, none⟩) (pk.length + 12) (u8s pk) := by
    obtain ⟨q1, q2⟩ := bk_rd HL2.out (pk.length + 12)
    refine ⟨q1, fun hx => ?_⟩
    obtain ⟨a, e, hb, hc⟩ := q2 (by rw [u8s_app]; intro e; exact hx (List.append_eq_nil_iff.1 e).1)
    refine ⟨a, e, hb, fun j u hu => hc j u ?_⟩
    rw [u8s_app, List.getElem?_append_left (List.getElem?_eq_some_iff.1 hu).1, hu]
  refine (doR_any (some ⟨w.heap.size, 0, none⟩) (xs.length + 12) xs (some ⟨w1.heap.size, 0, none⟩) (pk.length + 12) pk w2 hin hpk HPB.out (by omega) HIO.out).mono ?_
  rintro _ w3 ⟨rfl, hb3⟩
  have HI3 := Lib.hid (HI2.out.below hb3)
  have HP3 := Lib.hid ((HP2.out.below hb3).mono hb3.size)
  have HF3 := Lib.hid (HF2.out.below hb3 HF2.out.lt)
  have HL3 := Lib.hid (HL2.out.below hb3 HL2.out.lt)
  have HB3 := Lib.hid hb3
  clear hb3 hin hpk
  go_wp2_with fail
  refine (rdoR_any A c xs P d pk w3 HI3.out HP3.out HPB.out (by omega) HIO.out).mono ?_
  rintro _ w4 ⟨rfl, hb4⟩
  have HI4 := Lib.hid (HI3.out.below hb4)
  have HP4 := Lib.hid ((HP3.out.below hb4).mono hb4.size)
  have HF4 := Lib.hid (HF3.out.below hb4 HF3.out.lt)
  have HL4 := Lib.hid (HL3.out.below hb4 HL3.out.lt)
  have HB4 := Lib.hid hb4
  clear hb4
  have q := outE_same ⟨(doP pk xs).err, (doP pk xs).pc, (doP pk xs).v, (doP pk xs).steps⟩
  simp only [outA, outV]
  go_wp2_with fail
  refine (keptF_true w.heap.size A c xs w4 HF4.out HI4.out (by omega)).mono ?_
  rintro _ w5 ⟨rfl, hb5⟩
  have HP5 := Lib.hid ((HP4.out.below hb5).mono hb5.size)
  have HL5 := Lib.hid (HL4.out.below hb5 HL4.out.lt)
  have HB5 := Lib.hid hb5
  clear hb5
  go_wp2_with fail
  refine (kept_any w1.heap.size pk.length P d (pk ++ marks 12) pk w5 HL5.out HP5.out (by simp) (by omega) (by omega)).mono ?_
  rintro _ w6 ⟨rfl, n6, rfl⟩
  rw [decide_eq_true rfl]
  go_wp2_with fail
  refine (awake_any _).mono ?_
  rintro _ w7 ⟨rfl, hb7⟩
  have HB7 := Lib.hid hb7
  clear hb7 q
  go_wp2_with fail
  go_ret
  have b1 := HB1.out
  have b2 := HB2.out
  have b3 := HB3.out
  have b4 := HB4.out
  have b5 := HB5.out
  have b7 : Below w5.heap.size w5 w7 := ⟨HB7.out.os, HB7.out.tape, HB7.out.output, HB7.out.size, HB7.out.block⟩
  have s1 := b1.size
  have s2 := b2.size
  have s3 := b3.size
  have s4 := b4.size
  have s5 := b5.size
  exact ⟨rfl, ((((b1.trans (b2.mono (by omega))).trans (b3.mono (by omega))).trans (b4.mono (by omega))).trans (b5.mono (by omega))).trans (b7.mono (by omega))⟩
end
section
open Go.ChangeShapes Go.WideShapes Go.Deep
variable {H : Type} {enc : TypeId × Value → H}
theorem cells40d : Try.prog.cellsOf 40 = 9 := by kernel_rfl
theorem cells37d : Try.prog.cellsOf 37 = 1 := by kernel_rfl
theorem cells38d : Try.prog.cellsOf 38 = 1 := by kernel_rfl
theorem cells4d : Try.prog.cellsOf 4 = 1 := by kernel_rfl
theorem cells3d : Try.prog.cellsOf 3 = 1 := by kernel_rfl
theorem cells28d : Try.prog.cellsOf 28 = 1 := by kernel_rfl
set_option maxRecDepth 100000 in
/-- An instruction that came in, by its cells. -/
theorem came_flat {W : World} {fuel : Nat} {cs : List Value} {x : DataW H × List MemPlace} (h : DataW.trod enc Try.prog W 0 (fun _ => true) true fuel 40 cs = some x) :
    ∃ e, cs = insV e ∧ InsOk e := by
  obtain ⟨xs, n, rfl, hx, hcl, hxl, hf⟩ := DataW.trod_struct Try.underlying40 h
  have hc : cs.length = 9 := hcl.trans (by kernel_rfl)
  match cs, hc with
  | [c0, c1, c2, c3, c4, c5, c6, c7, c8], _ =>
    match xs, hxl with
    | [y0, y1, y2, y3, y4, y5, y6, y7, y8], _ =>
      have h0 := hf 0 _ rfl
      have h1 := hf 1 _ rfl
      have h2 := hf 2 _ rfl
      have h3 := hf 3 _ rfl
      have h4 := hf 4 _ rfl
      have h5 := hf 5 _ rfl
      have h6 := hf 6 _ rfl
      have h7 := hf 7 _ rfl
      have h8 := hf 8 _ rfl
      simp [cells37d, cells38d, cells4d, cells3d, cells28d] at h0 h1 h2 h3 h4 h5 h6 h7 h8
      obtain ⟨n0, e0, _, _⟩ := DataW.trod_int Try.underlying37 h0
      obtain ⟨n1, e1, _, w1⟩ := DataW.trod_int Try.underlying38 h1
      obtain ⟨n2, e2, _⟩ := DataW.trod_bool Try.underlying4 h2
      obtain ⟨n3, e3, _⟩ := DataW.trod_int Try.underlying3 h3
      obtain ⟨n4, e4, _⟩ := DataW.trod_int Try.underlying3 h4
      obtain ⟨n5, e5, _⟩ := DataW.trod_int Try.underlying3 h5
      obtain ⟨n6, e6, _, w6⟩ := DataW.trod_int Try.underlying28 h6
      obtain ⟨n7, e7, _⟩ := DataW.trod_int Try.underlying3 h7
      obtain ⟨n8, e8, _⟩ := DataW.trod_int Try.underlying3 h8
      injection e0 with e0
      injection e1 with e1
      injection e2 with e2
      injection e3 with e3
      injection e4 with e4
      injection e5 with e5
      injection e6 with e6
      injection e7 with e7
      injection e8 with e8
      refine ⟨⟨n0, n1, n2, n3, n4, n5, n6, n7, n8⟩, by rw [e0, e1, e2, e3, e4, e5, e6, e7, e8]; rfl, ?_⟩
      simp [Lit.wf] at w1 w6
      have a1 : (0 : Int) ≤ n1 := w1.1
      have a2 : (0 : Int) ≤ n6 := w6.1
      have a3 : n6 ≤ 18446744073709551615 := w6.2
      exact ⟨a1, a2, a3⟩
/-- Instructions that came in. -/
theorem came_flats {W : World} {fuel : Nat} {v : Value} {x : DataW H × List MemPlace} (h : DataW.trod enc Try.prog W 0 (fun _ => true) true fuel 22 [v] = some x) :
    ∃ A c es, v = .slice A (List.length es) c ∧ Inss W (fun b => b < W.heap.size) A c es ∧ ∀ f ∈ es, InsOk f := by
  rcases open_slice Try.underlying22 h with ⟨hcs, _⟩ | ⟨a, len, cap, m, n, D, Pl, hcs, hb, hl, hm, hmm, hx, hi⟩
  · injection hcs with hcs
    subst hcs
    exact ⟨none, 0, [], rfl, inss_nil W, fun f hf => by cases hf⟩
  · injection hcs with hcs
    subst hcs
    simp at hmm
    subst hmm
    rw [cells40d] at hi
    have each : ∀ i, i < len → ∃ e, (∀ j, j < 9 → W.cell? ((a.add (i * 9)).add j) = (insV e)[j]?) ∧ InsOk e := by
      intro i hil
      obtain ⟨cs', hc, ht⟩ := hi i (by omega)
      obtain ⟨_, hcl, hat⟩ := World.cells?_some hc
      obtain ⟨e, rfl, hok⟩ := came_flat ht
      exact ⟨e, fun j hj => hat j hj, hok⟩
    obtain ⟨f, hf⟩ : ∃ f : Nat → Ins, ∀ i, i < len → (∀ j, j < 9 → W.cell? ((a.add (i * 9)).add j) = (insV (f i))[j]?) ∧ InsOk (f i) := by
      refine ⟨fun i => if hi : i < len then Classical.choose (each i hi) else default, fun i hi => ?_⟩
      simp only [dif_pos hi]
      exact Classical.choose_spec (each i hi)
    have at_ : ∀ i x, ((List.range len).map f)[i]? = some x → i < len ∧ x = f i := by
      intro i x hx
      simp only [List.getElem?_map] at hx
      by_cases hil : i < len
      · simp [hil] at hx
        exact ⟨hil, hx.symm⟩
      · simp [hil] at hx
    refine ⟨some a, m, (List.range len).map f, by simp, ⟨fun e => (by cases e), by simpa using hl, hm, fun hne => ⟨a, rfl, ?_, ?_⟩⟩, ?_⟩
    · have hl0 : 0 < len := by
        cases len with
        | zero => simp at hne
        | succ n => omega
      have h3 := (hf 0 hl0).1 0 (by omega)
      have h4 := World.block_lt_of_cell? W _ (h3.trans (by rfl : (insV (f 0))[0]? = some (.int .u8 (f 0).op)))
      rw [add_blk, add_blk] at h4
      exact h4
    · intro i x hx j hj
      obtain ⟨hil, rfl⟩ := at_ i x hx
      exact (hf i hil).1 j hj
    · intro x hx
      obtain ⟨i, hi'⟩ := List.mem_iff_getElem?.1 hx
      obtain ⟨hil, rfl⟩ := at_ i x hi'
      exact (hf i hil).2
/-- Bytes that came in. -/
theorem came_bytes {W : World} {fuel : Nat} {v : Value} {x : DataW H × List MemPlace} (h : DataW.trod enc Try.prog W 0 (fun _ => true) true fuel 23 [v] = some x) :
    ∃ A c l, v = .slice A (List.length l) c ∧ Rd W W.heap.size A c (u8s l) ∧ l.length ≤ c ∧ c ≤ maxLen ∧ Bytes l := by
  rcases open_ints Try.underlying23 Try.underlying5 (by kernel_rfl) h with ⟨hcs, _⟩ | ⟨a, l, c, zs, hcs, _, hl, hm, hz, _, hcell, hwz⟩
  · injection hcs with hcs
    subst hcs
    exact ⟨none, 0, [], rfl, Rd.none_ _ _ _ _ (fun _ => rfl), Nat.le_refl _, by decide, fun x hx => by cases hx⟩
  · injection hcs with hcs
    subst hcs
    have hz' : zs.length = c := by simpa using hz
    refine ⟨some a, c, zs.take l, ?_, ⟨(fun e => by cases e), fun hne => ⟨a, rfl, ?_, ?_⟩⟩, ?_, hm, ?_⟩
    · simp [hz', hl]
    · have h0 : 0 < (zs.take l).length := by
        cases hq : zs.take l with
        | nil => rw [hq] at hne; exact absurd rfl hne
        | cons _ _ => simp
      have h1 := hcell 0 (by simp at h0; omega)
      have h2 := World.block_lt_of_cell? W _ h1
      rw [add_blk] at h2
      exact h2
    · intro j u hu
      simp only [u8s, List.getElem?_map] at hu
      cases hj : (zs.take l)[j]? with
      | none => rw [hj] at hu; cases hu
      | some y =>
        rw [hj] at hu
        injection hu with hu
        subst hu
        obtain ⟨h1, h2⟩ := List.getElem?_eq_some_iff.1 hj
        have h3 : j < zs.length := by simp at h1; omega
        rw [hcell j h3]
        simp at h2
        simp [List.getD_eq_getElem?_getD, h3, h2]
    · simp; omega
    · intro x hx
      have hm' := List.mem_of_mem_take hx
      have hw := hwz x hm'
      simp [Lit.wf] at hw
      have a1 : (0 : Int) ≤ x := hw.1
      have a2 : x ≤ 255 := hw.2
      exact ⟨a1, by omega⟩
end
end Go.Proofs.Ytbfegghkipoppaa
