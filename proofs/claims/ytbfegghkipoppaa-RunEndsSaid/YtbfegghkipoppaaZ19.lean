/- RunEnds: its walk. -/
import Derived.Outline
import Derived.Test.YtbfegghkipoppaaZ18
namespace Go.Proofs.Ytbfegghkipoppaa
open Go.RowKit Go.Shelf
set_option linter.unusedVariables false
set_option maxRecDepth 100000
section
attribute [local go_sem high] eql_out
/-- An instruction that goes nowhere. -/
def tameI (f : Ins) : Ins := if f.op = 7 ∨ f.op = 8 then endI 0 else { f with «to» := 0 }
theorem tame_ok {f : Ins} (h : InsOk f) : InsOk (tameI f) := by
  unfold tameI
  split
  · exact okE 0
  · exact ⟨h.w0, h.n0, h.n1⟩
def allI (xs ms : List Ins) : List Ins := xs ++ (ms.map tameI ++ [endI 7])
theorem all_ok {xs ms : List Ins} (h1 : ∀ f ∈ xs, InsOk f) (h2 : ∀ f ∈ ms, InsOk f) : ∀ f ∈ allI xs ms, InsOk f := by
  intro f hf
  simp only [allI, List.mem_append, List.mem_map, List.mem_singleton] at hf
  rcases hf with hf | ⟨g, hg, rfl⟩ | rfl
  · exact h1 f hf
  · exact tame_ok (h2 g hg)
  · exact okE 7
theorem own_inss {w : World} {base n : Nat} {v : Value} {xs : List Ins} (h : w.ownsRow base 40 9 v n (flatV xs)) (hn : n = xs.length) (h0 : 0 < xs.length) : ∃ g c, v = .slice (some ⟨g, 0, none⟩) xs.length c ∧ Inss w (fun b => b < w.heap.size) (some ⟨g, 0, none⟩) c xs ∧ base ≤ g := by
  subst hn
  rcases h.2 with ⟨_, h'⟩ | ⟨g, cap, cur, rfl, hb, hg, hnc, hcm, hcs, htake⟩
  · omega
  · have hl := (Array.getElem?_eq_some_iff.1 hg).1
    refine ⟨g, cap, rfl, ⟨fun e => (by cases e), hnc, hcm, fun _ => ⟨_, rfl, hl, fun i x hi j hj => ?_⟩⟩, hb⟩
    have hf := flatV_at xs i x hi j hj
    rw [add_add', add_at, cell_of_row w g _ _ _ _ hg, ← hf, ← htake, List.getElem?_take]
    have hi' := (List.getElem?_eq_some_iff.1 hi).1
    rw [if_pos (by omega)]
    simp
theorem news_new2 (w : World) (o : Obj) (xs : List Value) (t : TypeId) : ∀ j u, xs[j]? = some u → ((w.alloc o).alloc (.cells xs.toArray t)).cell? (Addr.add ⟨w.heap.size + 1, 0, none⟩ j) = some u := by
  have := news_new (w.alloc o) xs t
  rwa [World.size_alloc] at this
set_option linter.unusedSimpArgs false in
set_option maxHeartbeats 4000000 in
theorem RunEnds_any (A : Option Addr) (c : Nat) (xs : List Ins) (M : Option Addr) (cm : Nat) (ms : List Ins) (P : Option Addr) (d : Nat) (pk : List Int) (w : World) (hI : Inss w (fun b => b < w.heap.size) A c xs) (hio : ∀ f ∈ xs, InsOk f) (hM : Inss w (fun b => b < w.heap.size) M cm ms) (hmo : ∀ f ∈ ms, InsOk f)
    (hP : Rd w w.heap.size P d (u8s pk)) (hpb : Bytes pk) (hpl : pk.length ≤ 9223372036854775807) :
    Calls Try.prog 5 #[.slice A xs.length c, .slice M ms.length cm, .slice P pk.length d] w fun e w' => e = .returned (.bool true) ∧ Below w.heap.size w w' := by
  have hxl : xs.length ≤ 9223372036854775807 := by have h1 := hI.2.1; have h2 := hI.2.2.1; unfold maxLen at h2; omega
  have hml : ms.length ≤ 9223372036854775807 := by have h1 := hM.2.1; have h2 := hM.2.2.1; unfold maxLen at h2; omega
  have HI := Lib.hid hI
  have HM := Lib.hid hM
  have HP := Lib.hid hP
  have HIO := Lib.hid hio
  have HMO := Lib.hid hmo
  have HPB := Lib.hid hpb
  clear hI hM hP hio hmo hpb
  obtain ⟨i0, hi, hz0, hz1, hz2⟩ := info_parts flat_info
  go_enter Try.func5, Try.ntmps5
  go_wp2_with fail
  refine (awake_any w).mono ?_
  rintro _ w1 ⟨rfl, hb1⟩
  have HI1 := Lib.hid (HI.out.below hb1)
  have HM1 := Lib.hid (HM.out.below hb1)
  have HP1 := Lib.hid ((HP.out.below hb1).mono hb1.size)
  have HB1 := Lib.hid hb1
  clear hb1
  by_cases h1 : 2000 < xs.length
  · have d1 : decide ((2000 : Int) < (xs.length : Int)) = true := decide_eq_true (by omega)
    go_wp2_with fail
    go_ret
    exact ⟨rfl, HB1.out⟩
  have d1 : decide ((2000 : Int) < (xs.length : Int)) = false := decide_eq_false (by omega)
  by_cases h2 : 2000 < ms.length
  · have d2 : decide ((2000 : Int) < (ms.length : Int)) = true := decide_eq_true (by omega)
    go_wp2_with fail
    go_ret
    exact ⟨rfl, HB1.out⟩
  have d2 : decide ((2000 : Int) < (ms.length : Int)) = false := decide_eq_false (by omega)
  by_cases h3 : 2000 < pk.length
  · have d3 : decide ((2000 : Int) < (pk.length : Int)) = true := decide_eq_true (by omega)
    go_wp2_with fail
    go_ret
    exact ⟨rfl, HB1.out⟩
  have d3 : decide ((2000 : Int) < (pk.length : Int)) = false := decide_eq_false (by omega)
  go_wp2_with fail
  refine (doR_any A c xs P d pk w1 HI1.out HP1.out HPB.out (by omega) HIO.out).mono ?_
  rintro _ w2 ⟨rfl, hb2⟩
  obtain ⟨o, ho⟩ : ∃ o, o = doP pk xs := ⟨_, rfl⟩
  rw [← ho]
  have HO := Lib.hid ho
  have HI2 := Lib.hid (HI1.out.below hb2)
  have HM2 := Lib.hid (HM1.out.below hb2)
  have HP2 := Lib.hid ((HP1.out.below hb2).mono hb2.size)
  have HB2 := Lib.hid hb2
  clear hb2 ho
  simp only [outA, outV]
  go_wp2_with fail
  refine (right_any A c xs _ (HI2.out.alloc _)).mono ?_
  rintro _ w3 ⟨rfl, hb3⟩
  have HB3 := Lib.hid hb3
  have hz3 := hb3.size
  simp at hz3
  have hR : Bk w3 w2.heap.size 30 (outV o.err o.pc o.v o.steps) := (Bk.new w2 30 _).below hb3 (by simp)
  have cR0 := hR.cell 0
  have cR1 := hR.cell 1
  have cR2 := hR.cell 2
  have cR3 := hR.cell 3
  simp only [outV, List.getElem?_cons_zero, List.getElem?_cons_succ] at cR0 cR1 cR2 cR3
  have HR := Lib.hid hR
  have HI3 := Lib.hid ((HI2.out.alloc _).below hb3)
  have HM3 := Lib.hid ((HM2.out.alloc _).below hb3)
  have HP3 := Lib.hid (show Rd w3 w3.heap.size P d (u8s pk) from (HP2.out.below (((Below.refl _ _).alloc (Nat.le_refl _) _).trans (hb3.mono (by simp)))).mono (by omega))
  clear hb3 hR
  cases hr : rightP xs with
  | false =>
    have ho : o = ⟨4, 0, 0, 0⟩ := by rw [HO.out]; unfold doP; rw [hr]; rfl
    subst ho
    have q := outE_same ⟨4, 0, 0, 0⟩
    simp only at cR0 cR1 cR2 cR3
    clear hr
    go_wp2_with fail
    go_ret
    exact ⟨rfl, HB1.out.trans (((HB2.out.trans ((((Below.refl _ _).alloc (Nat.le_refl _) _).trans (HB3.out.mono (by simp))).mono HB2.out.size))).mono HB1.out.size)⟩
  | true =>
    have HRI := Lib.hid hr
    clear hr
    have hok : OutOk xs o := by rw [HO.out]; exact do_ok pk xs HRI.out HIO.out HPB.out (by omega)
    obtain ⟨e, p, v, sn⟩ := o
    have HW3 : Hid (Below w.heap.size w w3) := Lib.hid (HB1.out.trans (((HB2.out.trans ((((Below.refl _ _).alloc (Nat.le_refl _) _).trans (HB3.out.mono (by simp))).mono HB2.out.size))).mono HB1.out.size))
    simp only at cR0 cR1 cR2 cR3
    obtain ⟨k1, k2, k3, k4, k5, k6, k7⟩ := hok
    simp only at k1 k2 k3 k4 k5 k6 k7
    have t1 : decide (sn < 1) = false := decide_eq_false (by omega)
    have t2 : decide ((xs.length : Int) < sn) = false := decide_eq_false (by omega)
    have t3 : decide (p < 0) = false := decide_eq_false (by omega)
    have t4 : decide ((xs.length : Int) ≤ p) = false := decide_eq_false (by omega)
    have hx1 : 1 ≤ xs.length := (right_len xs HRI.out).1
    obtain ⟨a, ha⟩ : ∃ a, A = some a := by
      obtain ⟨a, x, e', _⟩ := HI3.out.at_ (k := 0) (by omega)
      exact ⟨a, e'⟩
    subst ha
    have hm0 : (w3.alloc (.cells #[] 40)).ownsRow w3.heap.size 40 9 (.slice (some ⟨w3.heap.size, 0, none⟩) 0 0) 0 [] := World.ownsRow_made w3 #[] 0 (Nat.le_refl _) (by decide) rfl
    have hc0 := (HI3.out.alloc (.cells #[] 40)).cells a rfl
    have HC0 := Lib.hid hc0
    clear hc0
    have hsplit : (e = 0 ∧ p = 0) ∨ ∃ (pn : Nat) (f : Ins), p = pn ∧ v = 0 ∧ Hid (xs[pn]? = some f) ∧ ((e = 113 ∧ f.op = 3) ∨ (e = 112 ∧ f.op = 4) ∨ (e = 112 ∧ f.op = 5) ∨ (e = 112 ∧ f.op = 6)) := by
      by_cases he : e = 0
      · exact .inl ⟨he, k5 he⟩
      · obtain ⟨f, hf, hk⟩ := k7 he
        refine .inr ⟨p.toNat, f, by omega, k6 he, Lib.hid hf, ?_⟩
        rcases hk with hk | ⟨hk, h' | h' | h'⟩
        · exact .inl hk
        · exact .inr (.inl ⟨hk, h'⟩)
        · exact .inr (.inr (.inl ⟨hk, h'⟩))
        · exact .inr (.inr (.inr ⟨hk, h'⟩))
    clear k1 k2 k5 k6 k7
    have hcl : ∀ (pn : Nat) (f : Ins) (z : Int), xs[pn]? = some f → f.op = z → w3.cell? (a.add (pn * 9)) = some (.int .u8 z) := by
      intro pn f z hf hz
      obtain ⟨a', f', e', _, hf', hc⟩ := HI3.out.at_ (List.getElem?_eq_some_iff.1 hf).1
      injection e' with e'
      subst e'
      have h0 := hc 0 (by omega)
      rw [hf'.out] at hf
      injection hf with hf
      rw [← hz, ← hf]
      simpa [insV, add_zero'] using h0
    have HCL := Lib.hid hcl
    clear hcl
    have HM0 := Lib.hid hm0
    clear hm0
    rcases hsplit with ⟨rfl, rfl⟩ | ⟨pn, f, rfl, rfl, hf, ⟨rfl, hop⟩ | ⟨rfl, hop⟩ | ⟨rfl, hop⟩ | ⟨rfl, hop⟩⟩
    · clear t3 k3 k4
      have hne : ¬ xs = [] := fun h => by rw [h] at hx1; simp at hx1
      go_wp2_with (at_builtin; refine wpList_append_own _ rfl _ _ 22 rfl w3.heap.size 40 i0 _ 9 56 Try.underlying22 hi hz0 hz1 hz2 rfl (by decide) (.slice (some ⟨w3.heap.size, 0, none⟩) 0 0) 0 [] rfl HM0.out a xs.length c (flatV xs) rfl (by rw [flatV_len]) HC0.out (flatV_one _) (by unfold maxLen; omega) (by omega) (by simp) ?_; intro v1 w4 hown4 hgrow4 hv4)
      simp only [Nat.zero_add, List.nil_append] at hown4
      have hB4 : Below w3.heap.size w3 w4 := ((Below.refl _ _).alloc (Nat.le_refl _) _).grown hgrow4 (by simp) (fun k e => by injection e with e; subst e; exact Nat.le_refl _)
      clear hgrow4 hv4
      go_loopw [9, 10] (fun v i wr => ∃ k : Nat, k ≤ ms.length ∧ i = .int .i64 k ∧ wr.ownsRow w3.heap.size 40 9 v (xs.length + k) (flatV (xs ++ (ms.take k).map tameI)) ∧ Below w3.heap.size w3 wr) (fun _ i _ => ms.length - (intOf i).toNat)
      case atStart => exact ⟨0, Nat.zero_le _, rfl, by simpa using hown4, hB4⟩
      case round =>
        clear hown4 hB4
        obtain ⟨k, hk, rfl, hown, hbr⟩ := hrel
        have HOWN := Lib.hid hown
        have HBR := Lib.hid hbr
        have hbs := hbr.size
        by_cases hlt : k < ms.length
        · have dk : decide ((k : Int) < (ms.length : Int)) = true := decide_eq_true (by omega)
          obtain ⟨b, g, rfl, hb, hg, hc⟩ := (HM3.out.below hbr).at_ hlt
          obtain ⟨e0, e1, e2, e3, e4, e5, e6, e7, e8⟩ := flat9 hc
          have hbl : (b.add (k * 9)).block < wr.heap.size := by rw [add_blk]; exact hb
          clear hc hown hbr
          have hext : Hid (flatV (xs ++ (ms.take k).map tameI) ++ flatV [tameI g] = flatV (xs ++ (ms.take (k + 1)).map tameI)) := Lib.hid (by
            rw [List.take_add_one, hg.out, List.map_append, ← List.append_assoc]; exact (flatV_app _ _).symm)
          have hown2 : ∀ o o', ((wr.alloc o).alloc o').ownsRow w3.heap.size 40 9 u9 (xs.length + k) (flatV (xs ++ (ms.take k).map tameI)) := fun o o' => (HOWN.out.alloc o).alloc o'
          have hgok := HMO.out g (List.mem_of_getElem? hg.out)
          by_cases h7 : g.op = 7
          · have q7 : (g.op == 7) = true := by rw [h7]; rfl
            have ht : tameI g = endI 0 := by unfold tameI; rw [if_pos (.inl h7)]
            have HT := Lib.hid ht
            clear ht
            go_wp2_with (at_builtin; refine wpList_append_own _ rfl (.tmp 144) (.tmp 146) 22 rfl w3.heap.size 40 i0 _ 9 56 Try.underlying22 hi hz0 hz1 hz2 rfl (by decide) u9 (xs.length + k) _ rfl (hown2 _ _) ⟨wr.heap.size + 1, 0, none⟩ 1 1 (insV (endI 0)) rfl rfl (news_new2 wr _ (insV (endI 0)) 40) (insV_one _) (by unfold maxLen; omega) (by omega) (by simp; omega) ?_; intro v2 w5 hown5 hgrow5 hv5)
            have HO5 : Hid (w5.ownsRow w3.heap.size 40 9 v2 (xs.length + (k + 1)) (flatV (xs ++ (ms.take (k + 1)).map tameI))) := Lib.hid (by rw [← hext.out, HT.out, flatV_single]; exact hown5)
            have HB5 : Hid (Below w3.heap.size w3 w5) := Lib.hid (((HBR.out.alloc hbs _).alloc (by simp; omega) _).grown hgrow5 (by simp; omega) (fun k e => (HOWN.out.lt k e).1))
            clear hown5 hgrow5 hv5 hown2
            go_wp2
            go_roundw
            case rel => exact ⟨k + 1, by omega, by go_num, HO5.out, HB5.out⟩
            case measure => simp [intOf]; omega
          have q7 : (g.op == 7) = false := by simpa using h7
          by_cases h8 : g.op = 8
          · have q8 : (g.op == 8) = true := by rw [h8]; rfl
            have ht : tameI g = endI 0 := by unfold tameI; rw [if_pos (.inr h8)]
            have HT := Lib.hid ht
            clear ht
            go_wp2_with (at_builtin; refine wpList_append_own _ rfl (.tmp 144) (.tmp 146) 22 rfl w3.heap.size 40 i0 _ 9 56 Try.underlying22 hi hz0 hz1 hz2 rfl (by decide) u9 (xs.length + k) _ rfl (hown2 _ _) ⟨wr.heap.size + 1, 0, none⟩ 1 1 (insV (endI 0)) rfl rfl (news_new2 wr _ (insV (endI 0)) 40) (insV_one _) (by unfold maxLen; omega) (by omega) (by simp; omega) ?_; intro v2 w5 hown5 hgrow5 hv5)
            have HO5 : Hid (w5.ownsRow w3.heap.size 40 9 v2 (xs.length + (k + 1)) (flatV (xs ++ (ms.take (k + 1)).map tameI))) := Lib.hid (by rw [← hext.out, HT.out, flatV_single]; exact hown5)
            have HB5 : Hid (Below w3.heap.size w3 w5) := Lib.hid (((HBR.out.alloc hbs _).alloc (by simp; omega) _).grown hgrow5 (by simp; omega) (fun k e => (HOWN.out.lt k e).1))
            clear hown5 hgrow5 hv5 hown2
            go_wp2
            go_roundw
            case rel => exact ⟨k + 1, by omega, by go_num, HO5.out, HB5.out⟩
            case measure => simp [intOf]; omega
          · have q8 : (g.op == 8) = false := by simpa using h8
            have ht : tameI g = { g with «to» := 0 } := by unfold tameI; rw [if_neg (fun h => h.elim h7 h8)]
            have HT := Lib.hid ht
            clear ht
            go_wp2_with (at_builtin; refine wpList_append_own _ rfl (.tmp 144) (.tmp 146) 22 rfl w3.heap.size 40 i0 _ 9 56 Try.underlying22 hi hz0 hz1 hz2 rfl (by decide) u9 (xs.length + k) _ rfl (hown2 _ _) ⟨wr.heap.size + 1, 0, none⟩ 1 1 (insV ({ g with «to» := 0 })) rfl rfl (news_new2 wr _ (insV ({ g with «to» := 0 })) 40) (insV_one _) (by unfold maxLen; omega) (by omega) (by simp; omega) ?_; intro v2 w5 hown5 hgrow5 hv5)
            have HO5 : Hid (w5.ownsRow w3.heap.size 40 9 v2 (xs.length + (k + 1)) (flatV (xs ++ (ms.take (k + 1)).map tameI))) := Lib.hid (by rw [← hext.out, HT.out, flatV_single]; exact hown5)
            have HB5 : Hid (Below w3.heap.size w3 w5) := Lib.hid (((HBR.out.alloc hbs _).alloc (by simp; omega) _).grown hgrow5 (by simp; omega) (fun k e => (HOWN.out.lt k e).1))
            clear hown5 hgrow5 hv5 hown2
            go_wp2
            go_roundw
            case rel => exact ⟨k + 1, by omega, by go_num, HO5.out, HB5.out⟩
            case measure => simp [intOf]; omega
        · have dk : decide ((k : Int) < (ms.length : Int)) = false := decide_eq_false (by omega)
          obtain rfl : k = ms.length := by omega
          have hown2 : ∀ o, (wr.alloc o).ownsRow w3.heap.size 40 9 u9 (xs.length + ms.length) (flatV (xs ++ (ms.take ms.length).map tameI)) := fun o => HOWN.out.alloc o
          clear hown hbr
          go_wp2_with (at_builtin; refine wpList_append_own _ rfl (.tmp 148) (.tmp 150) 22 rfl w3.heap.size 40 i0 _ 9 56 Try.underlying22 hi hz0 hz1 hz2 rfl (by decide) u9 (xs.length + ms.length) _ rfl (hown2 _) ⟨wr.heap.size, 0, none⟩ 1 1 (insV (endI 7)) rfl rfl (news_new wr (insV (endI 7)) 40) (insV_one _) (by unfold maxLen; omega) (by omega) (by simp; omega) ?_; intro v2 w6 hown6 hgrow6 hv6)
          have hB6 : Below w3.heap.size w3 w6 := (HBR.out.alloc hbs _).grown hgrow6 (by simp; omega) (fun k e => (HOWN.out.lt k e).1)
          rw [List.take_length] at hown6
          have hown7 : w6.ownsRow w3.heap.size 40 9 v2 (xs.length + ms.length + 1) (flatV (allI xs ms)) := by
            have e1 : flatV (allI xs ms) = flatV (xs ++ ms.map tameI) ++ insV (endI 7) := by unfold allI; rw [← List.append_assoc, flatV_app, flatV_single]
            rw [e1]; exact hown6
          obtain ⟨g9, c9, rfl, hin, _⟩ := own_inss hown7 (by simp [allI]; omega) (by simp [allI]; omega)
          have hal : (allI xs ms).length ≤ 10000 := by simp [allI]; omega
          have HIN := Lib.hid hin
          have HB6 := Lib.hid hB6
          have HP6 := Lib.hid ((HP3.out.below hB6).mono hB6.size)
          have g0 := (hB6.cell (p := ⟨w2.heap.size, 0, none⟩) (by show w2.heap.size < _; omega)).trans cR0
          have g1 := (hB6.cell (p := ⟨w2.heap.size, 1, none⟩) (by show w2.heap.size < _; omega)).trans cR1
          have g2 := (hB6.cell (p := ⟨w2.heap.size, 2, none⟩) (by show w2.heap.size < _; omega)).trans cR2
          have g3 := (hB6.cell (p := ⟨w2.heap.size, 3, none⟩) (by show w2.heap.size < _; omega)).trans cR3
          have h26 : w2.heap.size < w6.heap.size := by have := hB6.size; omega
          clear hown6 hgrow6 hv6 hown7 hown2 hin hB6 cR0 cR1 cR2 cR3
          have hao := all_ok HIO.out HMO.out
          have HAO := Lib.hid hao
          clear hao
          obtain ⟨al, hal2⟩ : ∃ al, Hid (al = allI xs ms) := ⟨_, Lib.hid rfl⟩
          rw [← hal2.out] at HIN HAO hal ⊢
          cases hra : rightP al with
          | false =>
            have HRA := Lib.hid hra
            clear hra
            go_wp2
            refine wp_region_held_drew (S := fun w' => w'.cell? ⟨w2.heap.size, 0, none⟩ = some (.int .i64 0) ∧ w'.cell? ⟨w2.heap.size, 1, none⟩ = some (.int .i64 0) ∧ w'.cell? ⟨w2.heap.size, 2, none⟩ = some (.int .u64 v) ∧ w'.cell? ⟨w2.heap.size, 3, none⟩ = some (.int .i64 sn)) (by kernel_rfl) ⟨g0, g1, g2, g3⟩ (fun hS => ?_)
            refine wpAnyH_take (i := 0) (v := ?_) rfl (by kernel_rfl) (by kernel_rfl) (by kernel_rfl) (fun _ _ _ h => h) (Or.inl ⟨by rfl, ?_⟩) hS ?_
            rotate_left 1
            · intro w' hSw
              go_simp <;> with_reducible rfl
            try simp only [List.getElem_toArray, List.getElem_cons_zero, List.getElem_cons_succ, Act.put, List.setIfInBounds_toArray, List.set_cons_zero, List.set_cons_succ]
            refine wpAnyH_ready (rs := [1]) (by kernel_rfl) (by simp) (AllReadyH.cons rfl (fun K hK => ?_) AllReadyH.nil)
            go_simp
            refine (right_any (some ⟨g9, 0, none⟩) c9 al w6.drew HIN.out).mono ?_
            rintro _ w7 ⟨rfl, hb7⟩
            rw [HRA.out]
            have hS7 : w7.cell? ⟨w2.heap.size, 0, none⟩ = some (.int .i64 0) ∧ w7.cell? ⟨w2.heap.size, 1, none⟩ = some (.int .i64 0) ∧ w7.cell? ⟨w2.heap.size, 2, none⟩ = some (.int .u64 v) ∧ w7.cell? ⟨w2.heap.size, 3, none⟩ = some (.int .i64 sn) := ⟨(hb7.cell (p := ⟨w2.heap.size, 0, none⟩) h26).trans g0, (hb7.cell (p := ⟨w2.heap.size, 1, none⟩) h26).trans g1, (hb7.cell (p := ⟨w2.heap.size, 2, none⟩) h26).trans g2, (hb7.cell (p := ⟨w2.heap.size, 3, none⟩) h26).trans g3⟩
            go_simp
            refine hK _ _ hS7 (fun hS => ?_)
            clear hK K
            try simp only [List.getElem_toArray, List.getElem_cons_zero, List.getElem_cons_succ, Act.put, List.setIfInBounds_toArray, List.set_cons_zero, List.set_cons_succ]
            refine wpAnyH_take (i := 2) (v := ?_) rfl (by kernel_rfl) (by kernel_rfl) (by kernel_rfl) (fun _ _ _ h => h) (Or.inl ⟨by rfl, ?_⟩) hS ?_
            rotate_left 1
            · intro w' hSw
              go_simp <;> with_reducible rfl
            try simp only [List.getElem_toArray, List.getElem_cons_zero, List.getElem_cons_succ, Act.put, List.setIfInBounds_toArray, List.set_cons_zero, List.set_cons_succ]
            refine wpAnyH_take (i := 3) (v := ?_) rfl (by kernel_rfl) (by kernel_rfl) (by kernel_rfl) (fun _ _ _ h => h) (Or.inl ⟨by rfl, ?_⟩) hS ?_
            rotate_left 1
            · intro w' hSw
              go_simp <;> with_reducible rfl
            try simp only [List.getElem_toArray, List.getElem_cons_zero, List.getElem_cons_succ, Act.put, List.setIfInBounds_toArray, List.set_cons_zero, List.set_cons_succ]
            refine wpAnyH_take (i := 4) (v := undef) rfl (by kernel_rfl) (by kernel_rfl) (by kernel_rfl) (fun _ _ _ h => h) (Or.inr ⟨by go_simp, rfl⟩) hS ?_
            try simp only [List.getElem_toArray, List.getElem_cons_zero, List.getElem_cons_succ, Act.put, List.setIfInBounds_toArray, List.set_cons_zero, List.set_cons_succ]
            refine wpAnyH_take (i := 5) (v := undef) rfl (by kernel_rfl) (by kernel_rfl) (by kernel_rfl) (fun _ _ _ h => h) (Or.inr ⟨by go_simp, rfl⟩) hS ?_
            try simp only [List.getElem_toArray, List.getElem_cons_zero, List.getElem_cons_succ, Act.put, List.setIfInBounds_toArray, List.set_cons_zero, List.set_cons_succ]
            refine wpAnyH_take (i := 6) (v := undef) rfl (by kernel_rfl) (by kernel_rfl) (by kernel_rfl) (fun _ _ _ h => h) (Or.inr ⟨by go_simp, rfl⟩) hS ?_
            try simp only [List.getElem_toArray, List.getElem_cons_zero, List.getElem_cons_succ, Act.put, List.setIfInBounds_toArray, List.set_cons_zero, List.set_cons_succ]
            refine wpAnyH_take (i := 7) (v := undef) rfl (by kernel_rfl) (by kernel_rfl) (by kernel_rfl) (fun _ _ _ h => h) (Or.inr ⟨by go_simp, rfl⟩) hS ?_
            try simp only [List.getElem_toArray, List.getElem_cons_zero, List.getElem_cons_succ, Act.put, List.setIfInBounds_toArray, List.set_cons_zero, List.set_cons_succ]
            refine wpAnyH_take (i := 8) (v := undef) rfl (by kernel_rfl) (by kernel_rfl) (by kernel_rfl) (fun _ _ _ h => h) (Or.inr ⟨by go_simp, rfl⟩) hS ?_
            try simp only [List.getElem_toArray, List.getElem_cons_zero, List.getElem_cons_succ, Act.put, List.setIfInBounds_toArray, List.set_cons_zero, List.set_cons_succ]
            refine wpAnyH_take (i := 9) (v := ?_) rfl (by kernel_rfl) (by kernel_rfl) (by kernel_rfl) (fun _ _ _ h => h) (Or.inl ⟨by rfl, ?_⟩) hS ?_
            rotate_left 1
            · intro w' hSw
              go_simp <;> with_reducible rfl
            try simp only [List.getElem_toArray, List.getElem_cons_zero, List.getElem_cons_succ, Act.put, List.setIfInBounds_toArray, List.set_cons_zero, List.set_cons_succ]
            refine wpAnyH_take (i := 10) (v := ?_) rfl (by kernel_rfl) (by kernel_rfl) (by kernel_rfl) (fun _ _ _ h => h) (Or.inl ⟨by rfl, ?_⟩) hS ?_
            rotate_left 1
            · intro w' hSw
              go_simp <;> with_reducible rfl
            try simp only [List.getElem_toArray, List.getElem_cons_zero, List.getElem_cons_succ, Act.put, List.setIfInBounds_toArray, List.set_cons_zero, List.set_cons_succ]
            refine wpAnyH_done (by kernel_rfl) ?_ _
            have HB7 := Lib.hid hb7
            clear hb7 hS hS7
            go_wp2
            go_ret
            exact ⟨rfl, HW3.out.trans ((HB6.out.trans (((Below.refl _ _).drew.trans HB7.out).mono HB6.out.size)).mono (by have := HW3.out.size; omega))⟩
          | true =>
            have HRA := Lib.hid hra
            clear hra
            have hEX : Hid (doP pk al = ⟨0, 0, v, sn⟩) := Lib.hid (by rw [hal2.out]; unfold allI; rw [do_ext pk xs _ HRI.out (by have := HRA.out; rw [hal2.out] at this; exact this) HIO.out HPB.out (by omega)]; exact HO.out.symm)
            have q := outE_same ⟨0, 0, v, sn⟩
            go_wp2
            refine wp_region_held_drew (S := fun w' => w'.cell? ⟨w2.heap.size, 0, none⟩ = some (.int .i64 0) ∧ w'.cell? ⟨w2.heap.size, 1, none⟩ = some (.int .i64 0) ∧ w'.cell? ⟨w2.heap.size, 2, none⟩ = some (.int .u64 v) ∧ w'.cell? ⟨w2.heap.size, 3, none⟩ = some (.int .i64 sn)) (by kernel_rfl) ⟨g0, g1, g2, g3⟩ (fun hS => ?_)
            refine wpAnyH_take (i := 0) (v := ?_) rfl (by kernel_rfl) (by kernel_rfl) (by kernel_rfl) (fun _ _ _ h => h) (Or.inl ⟨by rfl, ?_⟩) hS ?_
            rotate_left 1
            · intro w' hSw
              go_simp <;> with_reducible rfl
            try simp only [List.getElem_toArray, List.getElem_cons_zero, List.getElem_cons_succ, Act.put, List.setIfInBounds_toArray, List.set_cons_zero, List.set_cons_succ]
            refine wpAnyH_ready (rs := [1]) (by kernel_rfl) (by simp) (AllReadyH.cons rfl (fun K hK => ?_) AllReadyH.nil)
            go_simp
            refine (right_any (some ⟨g9, 0, none⟩) c9 al w6.drew HIN.out).mono ?_
            rintro _ w7 ⟨rfl, hb7⟩
            rw [HRA.out]
            have hS7 : w7.cell? ⟨w2.heap.size, 0, none⟩ = some (.int .i64 0) ∧ w7.cell? ⟨w2.heap.size, 1, none⟩ = some (.int .i64 0) ∧ w7.cell? ⟨w2.heap.size, 2, none⟩ = some (.int .u64 v) ∧ w7.cell? ⟨w2.heap.size, 3, none⟩ = some (.int .i64 sn) := ⟨(hb7.cell (p := ⟨w2.heap.size, 0, none⟩) h26).trans g0, (hb7.cell (p := ⟨w2.heap.size, 1, none⟩) h26).trans g1, (hb7.cell (p := ⟨w2.heap.size, 2, none⟩) h26).trans g2, (hb7.cell (p := ⟨w2.heap.size, 3, none⟩) h26).trans g3⟩
            go_simp
            refine hK _ _ hS7 (fun hS => ?_)
            clear hK K
            try simp only [List.getElem_toArray, List.getElem_cons_zero, List.getElem_cons_succ, Act.put, List.setIfInBounds_toArray, List.set_cons_zero, List.set_cons_succ]
            refine wpAnyH_take (i := 2) (v := ?_) rfl (by kernel_rfl) (by kernel_rfl) (by kernel_rfl) (fun _ _ _ h => h) (Or.inl ⟨by rfl, ?_⟩) hS ?_
            rotate_left 1
            · intro w' hSw
              go_simp <;> with_reducible rfl
            try simp only [List.getElem_toArray, List.getElem_cons_zero, List.getElem_cons_succ, Act.put, List.setIfInBounds_toArray, List.set_cons_zero, List.set_cons_succ]
            refine wpAnyH_take (i := 3) (v := ?_) rfl (by kernel_rfl) (by kernel_rfl) (by kernel_rfl) (fun _ _ _ h => h) (Or.inl ⟨by rfl, ?_⟩) hS ?_
            rotate_left 1
            · intro w' hSw
              go_simp <;> with_reducible rfl
            try simp only [List.getElem_toArray, List.getElem_cons_zero, List.getElem_cons_succ, Act.put, List.setIfInBounds_toArray, List.set_cons_zero, List.set_cons_succ]
            refine wpAnyH_take (i := 4) (v := ?_) rfl (by kernel_rfl) (by kernel_rfl) (by kernel_rfl) (fun _ _ _ h => h) (Or.inl ⟨by go_simp, ?_⟩) hS ?_
            rotate_left 1
            · intro w' hSw
              go_simp <;> with_reducible rfl
            try simp only [List.getElem_toArray, List.getElem_cons_zero, List.getElem_cons_succ, Act.put, List.setIfInBounds_toArray, List.set_cons_zero, List.set_cons_succ]
            refine wpAnyH_take (i := 5) (v := ?_) rfl (by kernel_rfl) (by kernel_rfl) (by kernel_rfl) (fun _ _ _ h => h) (Or.inl ⟨by go_simp, ?_⟩) hS ?_
            rotate_left 1
            · intro w' hSw
              go_simp <;> with_reducible rfl
            try simp only [List.getElem_toArray, List.getElem_cons_zero, List.getElem_cons_succ, Act.put, List.setIfInBounds_toArray, List.set_cons_zero, List.set_cons_succ]
            refine wpAnyH_take (i := 7) (v := ?_) rfl (by kernel_rfl) (by kernel_rfl) (by kernel_rfl) (fun _ _ _ h => h) (Or.inl ⟨by go_simp, ?_⟩) hS ?_
            rotate_left 1
            · intro w' hSw
              go_simp <;> with_reducible rfl
            try simp only [List.getElem_toArray, List.getElem_cons_zero, List.getElem_cons_succ, Act.put, List.setIfInBounds_toArray, List.set_cons_zero, List.set_cons_succ]
            refine wpAnyH_ready (rs := [6]) (by kernel_rfl) (by simp) (AllReadyH.cons rfl (fun K hK => ?_) AllReadyH.nil)
            go_simp
            refine (doR_any (some ⟨g9, 0, none⟩) c9 al P d pk w7 (Inss.below (show Inss w6.drew _ _ _ _ from HIN.out) hb7) ((Rd.below (show Rd w6.drew w6.drew.heap.size P d (u8s pk) from HP6.out) hb7).mono hb7.size) HPB.out (by omega) HAO.out).mono ?_
            rintro _ w8 ⟨rfl, hb8⟩
            rw [hEX.out]
            have hS8 : w8.cell? ⟨w2.heap.size, 0, none⟩ = some (.int .i64 0) ∧ w8.cell? ⟨w2.heap.size, 1, none⟩ = some (.int .i64 0) ∧ w8.cell? ⟨w2.heap.size, 2, none⟩ = some (.int .u64 v) ∧ w8.cell? ⟨w2.heap.size, 3, none⟩ = some (.int .i64 sn) := ⟨(hb8.cell (p := ⟨w2.heap.size, 0, none⟩) (Nat.lt_of_lt_of_le h26 hb7.size)).trans hS7.1, (hb8.cell (p := ⟨w2.heap.size, 1, none⟩) (Nat.lt_of_lt_of_le h26 hb7.size)).trans hS7.2.1, (hb8.cell (p := ⟨w2.heap.size, 2, none⟩) (Nat.lt_of_lt_of_le h26 hb7.size)).trans hS7.2.2.1, (hb8.cell (p := ⟨w2.heap.size, 3, none⟩) (Nat.lt_of_lt_of_le h26 hb7.size)).trans hS7.2.2.2⟩
            simp only [outA, outV]
            go_simp
            refine hK _ _ hS8 (fun hS => ?_)
            clear hK K
            try simp only [List.getElem_toArray, List.getElem_cons_zero, List.getElem_cons_succ, Act.put, List.setIfInBounds_toArray, List.set_cons_zero, List.set_cons_succ]
            refine wpAnyH_take (i := 8) (v := ?_) rfl (by kernel_rfl) (by kernel_rfl) (by kernel_rfl) (fun _ _ _ h => h) (Or.inl ⟨by go_simp, ?_⟩) hS ?_
            rotate_left 1
            · intro w' hSw
              go_simp <;> with_reducible rfl
            try simp only [List.getElem_toArray, List.getElem_cons_zero, List.getElem_cons_succ, Act.put, List.setIfInBounds_toArray, List.set_cons_zero, List.set_cons_succ]
            refine wpAnyH_take (i := 9) (v := ?_) rfl (by kernel_rfl) (by kernel_rfl) (by kernel_rfl) (fun _ _ _ h => h) (Or.inl ⟨by rfl, ?_⟩) hS ?_
            rotate_left 1
            · intro w' hSw
              go_simp <;> with_reducible rfl
            try simp only [List.getElem_toArray, List.getElem_cons_zero, List.getElem_cons_succ, Act.put, List.setIfInBounds_toArray, List.set_cons_zero, List.set_cons_succ]
            refine wpAnyH_take (i := 10) (v := ?_) rfl (by kernel_rfl) (by kernel_rfl) (by kernel_rfl) (fun _ _ _ h => h) (Or.inl ⟨by rfl, ?_⟩) hS ?_
            rotate_left 1
            · intro w' hSw
              go_simp <;> with_reducible rfl
            try simp only [List.getElem_toArray, List.getElem_cons_zero, List.getElem_cons_succ, Act.put, List.setIfInBounds_toArray, List.set_cons_zero, List.set_cons_succ]
            refine wpAnyH_done (by kernel_rfl) ?_ _
            have HB7 := Lib.hid hb7
            have HB8 := Lib.hid hb8
            clear hb7 hb8 hS hS7 hS8
            go_wp2
            go_ret
            exact ⟨rfl, HW3.out.trans ((HB6.out.trans ((((Below.refl _ _).drew.trans HB7.out).trans (HB8.out.mono HB7.out.size)).mono HB6.out.size)).mono (by have := HW3.out.size; omega))⟩
    · have cl := HCL.out pn f 3 hf.out hop
      clear hop
      go_wp2_with (at_builtin; refine wpList_append_own _ rfl _ _ 22 rfl w3.heap.size 40 i0 _ 9 56 Try.underlying22 hi hz0 hz1 hz2 rfl (by decide) (.slice (some ⟨w3.heap.size, 0, none⟩) 0 0) 0 [] rfl HM0.out a xs.length c (flatV xs) rfl (by rw [flatV_len]) HC0.out (flatV_one _) (by unfold maxLen; omega) (by omega) (by simp) ?_; intro v1 w4 hown4 hgrow4 hv4)
      simp only [Nat.zero_add, List.nil_append] at hown4
      have hB4 : Below w3.heap.size w3 w4 := ((Below.refl _ _).alloc (Nat.le_refl _) _).grown hgrow4 (by simp) (fun k e => by injection e with e; subst e; exact Nat.le_refl _)
      clear hgrow4 hv4
      go_loopw [9, 10] (fun v i wr => ∃ k : Nat, k ≤ ms.length ∧ i = .int .i64 k ∧ wr.ownsRow w3.heap.size 40 9 v (xs.length + k) (flatV (xs ++ (ms.take k).map tameI)) ∧ Below w3.heap.size w3 wr) (fun _ i _ => ms.length - (intOf i).toNat)
      case atStart => exact ⟨0, Nat.zero_le _, rfl, by simpa using hown4, hB4⟩
      case round =>
        clear hown4 hB4
        obtain ⟨k, hk, rfl, hown, hbr⟩ := hrel
        have HOWN := Lib.hid hown
        have HBR := Lib.hid hbr
        have hbs := hbr.size
        by_cases hlt : k < ms.length
        · have dk : decide ((k : Int) < (ms.length : Int)) = true := decide_eq_true (by omega)
          obtain ⟨b, g, rfl, hb, hg, hc⟩ := (HM3.out.below hbr).at_ hlt
          obtain ⟨e0, e1, e2, e3, e4, e5, e6, e7, e8⟩ := flat9 hc
          have hbl : (b.add (k * 9)).block < wr.heap.size := by rw [add_blk]; exact hb
          clear hc hown hbr
          have hext : Hid (flatV (xs ++ (ms.take k).map tameI) ++ flatV [tameI g] = flatV (xs ++ (ms.take (k + 1)).map tameI)) := Lib.hid (by
            rw [List.take_add_one, hg.out, List.map_append, ← List.append_assoc]; exact (flatV_app _ _).symm)
          have hown2 : ∀ o o', ((wr.alloc o).alloc o').ownsRow w3.heap.size 40 9 u9 (xs.length + k) (flatV (xs ++ (ms.take k).map tameI)) := fun o o' => (HOWN.out.alloc o).alloc o'
          have hgok := HMO.out g (List.mem_of_getElem? hg.out)
          by_cases h7 : g.op = 7
          · have q7 : (g.op == 7) = true := by rw [h7]; rfl
            have ht : tameI g = endI 0 := by unfold tameI; rw [if_pos (.inl h7)]
            have HT := Lib.hid ht
            clear ht
            go_wp2_with (at_builtin; refine wpList_append_own _ rfl (.tmp 144) (.tmp 146) 22 rfl w3.heap.size 40 i0 _ 9 56 Try.underlying22 hi hz0 hz1 hz2 rfl (by decide) u9 (xs.length + k) _ rfl (hown2 _ _) ⟨wr.heap.size + 1, 0, none⟩ 1 1 (insV (endI 0)) rfl rfl (news_new2 wr _ (insV (endI 0)) 40) (insV_one _) (by unfold maxLen; omega) (by omega) (by simp; omega) ?_; intro v2 w5 hown5 hgrow5 hv5)
            have HO5 : Hid (w5.ownsRow w3.heap.size 40 9 v2 (xs.length + (k + 1)) (flatV (xs ++ (ms.take (k + 1)).map tameI))) := Lib.hid (by rw [← hext.out, HT.out, flatV_single]; exact hown5)
            have HB5 : Hid (Below w3.heap.size w3 w5) := Lib.hid (((HBR.out.alloc hbs _).alloc (by simp; omega) _).grown hgrow5 (by simp; omega) (fun k e => (HOWN.out.lt k e).1))
            clear hown5 hgrow5 hv5 hown2
            go_wp2
            go_roundw
            case rel => exact ⟨k + 1, by omega, by go_num, HO5.out, HB5.out⟩
            case measure => simp [intOf]; omega
          have q7 : (g.op == 7) = false := by simpa using h7
          by_cases h8 : g.op = 8
          · have q8 : (g.op == 8) = true := by rw [h8]; rfl
            have ht : tameI g = endI 0 := by unfold tameI; rw [if_pos (.inr h8)]
            have HT := Lib.hid ht
            clear ht
            go_wp2_with (at_builtin; refine wpList_append_own _ rfl (.tmp 144) (.tmp 146) 22 rfl w3.heap.size 40 i0 _ 9 56 Try.underlying22 hi hz0 hz1 hz2 rfl (by decide) u9 (xs.length + k) _ rfl (hown2 _ _) ⟨wr.heap.size + 1, 0, none⟩ 1 1 (insV (endI 0)) rfl rfl (news_new2 wr _ (insV (endI 0)) 40) (insV_one _) (by unfold maxLen; omega) (by omega) (by simp; omega) ?_; intro v2 w5 hown5 hgrow5 hv5)
            have HO5 : Hid (w5.ownsRow w3.heap.size 40 9 v2 (xs.length + (k + 1)) (flatV (xs ++ (ms.take (k + 1)).map tameI))) := Lib.hid (by rw [← hext.out, HT.out, flatV_single]; exact hown5)
            have HB5 : Hid (Below w3.heap.size w3 w5) := Lib.hid (((HBR.out.alloc hbs _).alloc (by simp; omega) _).grown hgrow5 (by simp; omega) (fun k e => (HOWN.out.lt k e).1))
            clear hown5 hgrow5 hv5 hown2
            go_wp2
            go_roundw
            case rel => exact ⟨k + 1, by omega, by go_num, HO5.out, HB5.out⟩
            case measure => simp [intOf]; omega
          · have q8 : (g.op == 8) = false := by simpa using h8
            have ht : tameI g = { g with «to» := 0 } := by unfold tameI; rw [if_neg (fun h => h.elim h7 h8)]
            have HT := Lib.hid ht
            clear ht
            go_wp2_with (at_builtin; refine wpList_append_own _ rfl (.tmp 144) (.tmp 146) 22 rfl w3.heap.size 40 i0 _ 9 56 Try.underlying22 hi hz0 hz1 hz2 rfl (by decide) u9 (xs.length + k) _ rfl (hown2 _ _) ⟨wr.heap.size + 1, 0, none⟩ 1 1 (insV ({ g with «to» := 0 })) rfl rfl (news_new2 wr _ (insV ({ g with «to» := 0 })) 40) (insV_one _) (by unfold maxLen; omega) (by omega) (by simp; omega) ?_; intro v2 w5 hown5 hgrow5 hv5)
            have HO5 : Hid (w5.ownsRow w3.heap.size 40 9 v2 (xs.length + (k + 1)) (flatV (xs ++ (ms.take (k + 1)).map tameI))) := Lib.hid (by rw [← hext.out, HT.out, flatV_single]; exact hown5)
            have HB5 : Hid (Below w3.heap.size w3 w5) := Lib.hid (((HBR.out.alloc hbs _).alloc (by simp; omega) _).grown hgrow5 (by simp; omega) (fun k e => (HOWN.out.lt k e).1))
            clear hown5 hgrow5 hv5 hown2
            go_wp2
            go_roundw
            case rel => exact ⟨k + 1, by omega, by go_num, HO5.out, HB5.out⟩
            case measure => simp [intOf]; omega
        · have dk : decide ((k : Int) < (ms.length : Int)) = false := decide_eq_false (by omega)
          obtain rfl : k = ms.length := by omega
          have hown2 : ∀ o, (wr.alloc o).ownsRow w3.heap.size 40 9 u9 (xs.length + ms.length) (flatV (xs ++ (ms.take ms.length).map tameI)) := fun o => HOWN.out.alloc o
          clear hown hbr
          go_wp2_with (at_builtin; refine wpList_append_own _ rfl (.tmp 148) (.tmp 150) 22 rfl w3.heap.size 40 i0 _ 9 56 Try.underlying22 hi hz0 hz1 hz2 rfl (by decide) u9 (xs.length + ms.length) _ rfl (hown2 _) ⟨wr.heap.size, 0, none⟩ 1 1 (insV (endI 7)) rfl rfl (news_new wr (insV (endI 7)) 40) (insV_one _) (by unfold maxLen; omega) (by omega) (by simp; omega) ?_; intro v2 w6 hown6 hgrow6 hv6)
          have hB6 : Below w3.heap.size w3 w6 := (HBR.out.alloc hbs _).grown hgrow6 (by simp; omega) (fun k e => (HOWN.out.lt k e).1)
          rw [List.take_length] at hown6
          have hown7 : w6.ownsRow w3.heap.size 40 9 v2 (xs.length + ms.length + 1) (flatV (allI xs ms)) := by
            have e1 : flatV (allI xs ms) = flatV (xs ++ ms.map tameI) ++ insV (endI 7) := by unfold allI; rw [← List.append_assoc, flatV_app, flatV_single]
            rw [e1]; exact hown6
          obtain ⟨g9, c9, rfl, hin, _⟩ := own_inss hown7 (by simp [allI]; omega) (by simp [allI]; omega)
          have hal : (allI xs ms).length ≤ 10000 := by simp [allI]; omega
          have HIN := Lib.hid hin
          have HB6 := Lib.hid hB6
          have HP6 := Lib.hid ((HP3.out.below hB6).mono hB6.size)
          have g0 := (hB6.cell (p := ⟨w2.heap.size, 0, none⟩) (by show w2.heap.size < _; omega)).trans cR0
          have g1 := (hB6.cell (p := ⟨w2.heap.size, 1, none⟩) (by show w2.heap.size < _; omega)).trans cR1
          have g2 := (hB6.cell (p := ⟨w2.heap.size, 2, none⟩) (by show w2.heap.size < _; omega)).trans cR2
          have g3 := (hB6.cell (p := ⟨w2.heap.size, 3, none⟩) (by show w2.heap.size < _; omega)).trans cR3
          have h26 : w2.heap.size < w6.heap.size := by have := hB6.size; omega
          clear hown6 hgrow6 hv6 hown7 hown2 hin hB6 cR0 cR1 cR2 cR3
          have hao := all_ok HIO.out HMO.out
          have HAO := Lib.hid hao
          clear hao
          obtain ⟨al, hal2⟩ : ∃ al, Hid (al = allI xs ms) := ⟨_, Lib.hid rfl⟩
          rw [← hal2.out] at HIN HAO hal ⊢
          cases hra : rightP al with
          | false =>
            have HRA := Lib.hid hra
            clear hra
            go_wp2
            refine wp_region_held_drew (S := fun w' => w'.cell? ⟨w2.heap.size, 0, none⟩ = some (.int .i64 113) ∧ w'.cell? ⟨w2.heap.size, 1, none⟩ = some (.int .i64 (pn : Int)) ∧ w'.cell? ⟨w2.heap.size, 2, none⟩ = some (.int .u64 0) ∧ w'.cell? ⟨w2.heap.size, 3, none⟩ = some (.int .i64 sn)) (by kernel_rfl) ⟨g0, g1, g2, g3⟩ (fun hS => ?_)
            refine wpAnyH_take (i := 0) (v := ?_) rfl (by kernel_rfl) (by kernel_rfl) (by kernel_rfl) (fun _ _ _ h => h) (Or.inl ⟨by rfl, ?_⟩) hS ?_
            rotate_left 1
            · intro w' hSw
              go_simp <;> with_reducible rfl
            try simp only [List.getElem_toArray, List.getElem_cons_zero, List.getElem_cons_succ, Act.put, List.setIfInBounds_toArray, List.set_cons_zero, List.set_cons_succ]
            refine wpAnyH_ready (rs := [1]) (by kernel_rfl) (by simp) (AllReadyH.cons rfl (fun K hK => ?_) AllReadyH.nil)
            go_simp
            refine (right_any (some ⟨g9, 0, none⟩) c9 al w6.drew HIN.out).mono ?_
            rintro _ w7 ⟨rfl, hb7⟩
            rw [HRA.out]
            have hS7 : w7.cell? ⟨w2.heap.size, 0, none⟩ = some (.int .i64 113) ∧ w7.cell? ⟨w2.heap.size, 1, none⟩ = some (.int .i64 (pn : Int)) ∧ w7.cell? ⟨w2.heap.size, 2, none⟩ = some (.int .u64 0) ∧ w7.cell? ⟨w2.heap.size, 3, none⟩ = some (.int .i64 sn) := ⟨(hb7.cell (p := ⟨w2.heap.size, 0, none⟩) h26).trans g0, (hb7.cell (p := ⟨w2.heap.size, 1, none⟩) h26).trans g1, (hb7.cell (p := ⟨w2.heap.size, 2, none⟩) h26).trans g2, (hb7.cell (p := ⟨w2.heap.size, 3, none⟩) h26).trans g3⟩
            go_simp
            refine hK _ _ hS7 (fun hS => ?_)
            clear hK K
            try simp only [List.getElem_toArray, List.getElem_cons_zero, List.getElem_cons_succ, Act.put, List.setIfInBounds_toArray, List.set_cons_zero, List.set_cons_succ]
            refine wpAnyH_take (i := 2) (v := ?_) rfl (by kernel_rfl) (by kernel_rfl) (by kernel_rfl) (fun _ _ _ h => h) (Or.inl ⟨by rfl, ?_⟩) hS ?_
            rotate_left 1
            · intro w' hSw
              go_simp <;> with_reducible rfl
            try simp only [List.getElem_toArray, List.getElem_cons_zero, List.getElem_cons_succ, Act.put, List.setIfInBounds_toArray, List.set_cons_zero, List.set_cons_succ]
            refine wpAnyH_take (i := 3) (v := ?_) rfl (by kernel_rfl) (by kernel_rfl) (by kernel_rfl) (fun _ _ _ h => h) (Or.inl ⟨by rfl, ?_⟩) hS ?_
            rotate_left 1
            · intro w' hSw
              go_simp <;> with_reducible rfl
            try simp only [List.getElem_toArray, List.getElem_cons_zero, List.getElem_cons_succ, Act.put, List.setIfInBounds_toArray, List.set_cons_zero, List.set_cons_succ]
            refine wpAnyH_take (i := 4) (v := undef) rfl (by kernel_rfl) (by kernel_rfl) (by kernel_rfl) (fun _ _ _ h => h) (Or.inr ⟨by go_simp, rfl⟩) hS ?_
            try simp only [List.getElem_toArray, List.getElem_cons_zero, List.getElem_cons_succ, Act.put, List.setIfInBounds_toArray, List.set_cons_zero, List.set_cons_succ]
            refine wpAnyH_take (i := 5) (v := undef) rfl (by kernel_rfl) (by kernel_rfl) (by kernel_rfl) (fun _ _ _ h => h) (Or.inr ⟨by go_simp, rfl⟩) hS ?_
            try simp only [List.getElem_toArray, List.getElem_cons_zero, List.getElem_cons_succ, Act.put, List.setIfInBounds_toArray, List.set_cons_zero, List.set_cons_succ]
            refine wpAnyH_take (i := 6) (v := undef) rfl (by kernel_rfl) (by kernel_rfl) (by kernel_rfl) (fun _ _ _ h => h) (Or.inr ⟨by go_simp, rfl⟩) hS ?_
            try simp only [List.getElem_toArray, List.getElem_cons_zero, List.getElem_cons_succ, Act.put, List.setIfInBounds_toArray, List.set_cons_zero, List.set_cons_succ]
            refine wpAnyH_take (i := 7) (v := undef) rfl (by kernel_rfl) (by kernel_rfl) (by kernel_rfl) (fun _ _ _ h => h) (Or.inr ⟨by go_simp, rfl⟩) hS ?_
            try simp only [List.getElem_toArray, List.getElem_cons_zero, List.getElem_cons_succ, Act.put, List.setIfInBounds_toArray, List.set_cons_zero, List.set_cons_succ]
            refine wpAnyH_take (i := 8) (v := undef) rfl (by kernel_rfl) (by kernel_rfl) (by kernel_rfl) (fun _ _ _ h => h) (Or.inr ⟨by go_simp, rfl⟩) hS ?_
            try simp only [List.getElem_toArray, List.getElem_cons_zero, List.getElem_cons_succ, Act.put, List.setIfInBounds_toArray, List.set_cons_zero, List.set_cons_succ]
            refine wpAnyH_take (i := 9) (v := ?_) rfl (by kernel_rfl) (by kernel_rfl) (by kernel_rfl) (fun _ _ _ h => h) (Or.inl ⟨by rfl, ?_⟩) hS ?_
            rotate_left 1
            · intro w' hSw
              go_simp <;> with_reducible rfl
            try simp only [List.getElem_toArray, List.getElem_cons_zero, List.getElem_cons_succ, Act.put, List.setIfInBounds_toArray, List.set_cons_zero, List.set_cons_succ]
            refine wpAnyH_take (i := 10) (v := ?_) rfl (by kernel_rfl) (by kernel_rfl) (by kernel_rfl) (fun _ _ _ h => h) (Or.inl ⟨by rfl, ?_⟩) hS ?_
            rotate_left 1
            · intro w' hSw
              go_simp <;> with_reducible rfl
            try simp only [List.getElem_toArray, List.getElem_cons_zero, List.getElem_cons_succ, Act.put, List.setIfInBounds_toArray, List.set_cons_zero, List.set_cons_succ]
            refine wpAnyH_done (by kernel_rfl) ?_ _
            have HB7 := Lib.hid hb7
            clear hb7 hS hS7
            go_wp2
            go_ret
            exact ⟨rfl, HW3.out.trans ((HB6.out.trans (((Below.refl _ _).drew.trans HB7.out).mono HB6.out.size)).mono (by have := HW3.out.size; omega))⟩
          | true =>
            have HRA := Lib.hid hra
            clear hra
            have hEX : Hid (doP pk al = ⟨113, (pn : Int), 0, sn⟩) := Lib.hid (by rw [hal2.out]; unfold allI; rw [do_ext pk xs _ HRI.out (by have := HRA.out; rw [hal2.out] at this; exact this) HIO.out HPB.out (by omega)]; exact HO.out.symm)
            have q := outE_same ⟨113, (pn : Int), 0, sn⟩
            go_wp2
            refine wp_region_held_drew (S := fun w' => w'.cell? ⟨w2.heap.size, 0, none⟩ = some (.int .i64 113) ∧ w'.cell? ⟨w2.heap.size, 1, none⟩ = some (.int .i64 (pn : Int)) ∧ w'.cell? ⟨w2.heap.size, 2, none⟩ = some (.int .u64 0) ∧ w'.cell? ⟨w2.heap.size, 3, none⟩ = some (.int .i64 sn)) (by kernel_rfl) ⟨g0, g1, g2, g3⟩ (fun hS => ?_)
            refine wpAnyH_take (i := 0) (v := ?_) rfl (by kernel_rfl) (by kernel_rfl) (by kernel_rfl) (fun _ _ _ h => h) (Or.inl ⟨by rfl, ?_⟩) hS ?_
            rotate_left 1
            · intro w' hSw
              go_simp <;> with_reducible rfl
            try simp only [List.getElem_toArray, List.getElem_cons_zero, List.getElem_cons_succ, Act.put, List.setIfInBounds_toArray, List.set_cons_zero, List.set_cons_succ]
            refine wpAnyH_ready (rs := [1]) (by kernel_rfl) (by simp) (AllReadyH.cons rfl (fun K hK => ?_) AllReadyH.nil)
            go_simp
            refine (right_any (some ⟨g9, 0, none⟩) c9 al w6.drew HIN.out).mono ?_
            rintro _ w7 ⟨rfl, hb7⟩
            rw [HRA.out]
            have hS7 : w7.cell? ⟨w2.heap.size, 0, none⟩ = some (.int .i64 113) ∧ w7.cell? ⟨w2.heap.size, 1, none⟩ = some (.int .i64 (pn : Int)) ∧ w7.cell? ⟨w2.heap.size, 2, none⟩ = some (.int .u64 0) ∧ w7.cell? ⟨w2.heap.size, 3, none⟩ = some (.int .i64 sn) := ⟨(hb7.cell (p := ⟨w2.heap.size, 0, none⟩) h26).trans g0, (hb7.cell (p := ⟨w2.heap.size, 1, none⟩) h26).trans g1, (hb7.cell (p := ⟨w2.heap.size, 2, none⟩) h26).trans g2, (hb7.cell (p := ⟨w2.heap.size, 3, none⟩) h26).trans g3⟩
            go_simp
            refine hK _ _ hS7 (fun hS => ?_)
            clear hK K
            try simp only [List.getElem_toArray, List.getElem_cons_zero, List.getElem_cons_succ, Act.put, List.setIfInBounds_toArray, List.set_cons_zero, List.set_cons_succ]
            refine wpAnyH_take (i := 2) (v := ?_) rfl (by kernel_rfl) (by kernel_rfl) (by kernel_rfl) (fun _ _ _ h => h) (Or.inl ⟨by rfl, ?_⟩) hS ?_
            rotate_left 1
            · intro w' hSw
              go_simp <;> with_reducible rfl
            try simp only [List.getElem_toArray, List.getElem_cons_zero, List.getElem_cons_succ, Act.put, List.setIfInBounds_toArray, List.set_cons_zero, List.set_cons_succ]
            refine wpAnyH_take (i := 3) (v := ?_) rfl (by kernel_rfl) (by kernel_rfl) (by kernel_rfl) (fun _ _ _ h => h) (Or.inl ⟨by rfl, ?_⟩) hS ?_
            rotate_left 1
            · intro w' hSw
              go_simp <;> with_reducible rfl
            try simp only [List.getElem_toArray, List.getElem_cons_zero, List.getElem_cons_succ, Act.put, List.setIfInBounds_toArray, List.set_cons_zero, List.set_cons_succ]
            refine wpAnyH_take (i := 4) (v := ?_) rfl (by kernel_rfl) (by kernel_rfl) (by kernel_rfl) (fun _ _ _ h => h) (Or.inl ⟨by go_simp, ?_⟩) hS ?_
            rotate_left 1
            · intro w' hSw
              go_simp <;> with_reducible rfl
            try simp only [List.getElem_toArray, List.getElem_cons_zero, List.getElem_cons_succ, Act.put, List.setIfInBounds_toArray, List.set_cons_zero, List.set_cons_succ]
            refine wpAnyH_take (i := 5) (v := ?_) rfl (by kernel_rfl) (by kernel_rfl) (by kernel_rfl) (fun _ _ _ h => h) (Or.inl ⟨by go_simp, ?_⟩) hS ?_
            rotate_left 1
            · intro w' hSw
              go_simp <;> with_reducible rfl
            try simp only [List.getElem_toArray, List.getElem_cons_zero, List.getElem_cons_succ, Act.put, List.setIfInBounds_toArray, List.set_cons_zero, List.set_cons_succ]
            refine wpAnyH_take (i := 7) (v := ?_) rfl (by kernel_rfl) (by kernel_rfl) (by kernel_rfl) (fun _ _ _ h => h) (Or.inl ⟨by go_simp, ?_⟩) hS ?_
            rotate_left 1
            · intro w' hSw
              go_simp <;> with_reducible rfl
            try simp only [List.getElem_toArray, List.getElem_cons_zero, List.getElem_cons_succ, Act.put, List.setIfInBounds_toArray, List.set_cons_zero, List.set_cons_succ]
            refine wpAnyH_ready (rs := [6]) (by kernel_rfl) (by simp) (AllReadyH.cons rfl (fun K hK => ?_) AllReadyH.nil)
            go_simp
            refine (doR_any (some ⟨g9, 0, none⟩) c9 al P d pk w7 (Inss.below (show Inss w6.drew _ _ _ _ from HIN.out) hb7) ((Rd.below (show Rd w6.drew w6.drew.heap.size P d (u8s pk) from HP6.out) hb7).mono hb7.size) HPB.out (by omega) HAO.out).mono ?_
            rintro _ w8 ⟨rfl, hb8⟩
            rw [hEX.out]
            have hS8 : w8.cell? ⟨w2.heap.size, 0, none⟩ = some (.int .i64 113) ∧ w8.cell? ⟨w2.heap.size, 1, none⟩ = some (.int .i64 (pn : Int)) ∧ w8.cell? ⟨w2.heap.size, 2, none⟩ = some (.int .u64 0) ∧ w8.cell? ⟨w2.heap.size, 3, none⟩ = some (.int .i64 sn) := ⟨(hb8.cell (p := ⟨w2.heap.size, 0, none⟩) (Nat.lt_of_lt_of_le h26 hb7.size)).trans hS7.1, (hb8.cell (p := ⟨w2.heap.size, 1, none⟩) (Nat.lt_of_lt_of_le h26 hb7.size)).trans hS7.2.1, (hb8.cell (p := ⟨w2.heap.size, 2, none⟩) (Nat.lt_of_lt_of_le h26 hb7.size)).trans hS7.2.2.1, (hb8.cell (p := ⟨w2.heap.size, 3, none⟩) (Nat.lt_of_lt_of_le h26 hb7.size)).trans hS7.2.2.2⟩
            simp only [outA, outV]
            go_simp
            refine hK _ _ hS8 (fun hS => ?_)
            clear hK K
            try simp only [List.getElem_toArray, List.getElem_cons_zero, List.getElem_cons_succ, Act.put, List.setIfInBounds_toArray, List.set_cons_zero, List.set_cons_succ]
            refine wpAnyH_take (i := 8) (v := ?_) rfl (by kernel_rfl) (by kernel_rfl) (by kernel_rfl) (fun _ _ _ h => h) (Or.inl ⟨by go_simp, ?_⟩) hS ?_
            rotate_left 1
            · intro w' hSw
              go_simp <;> with_reducible rfl
            try simp only [List.getElem_toArray, List.getElem_cons_zero, List.getElem_cons_succ, Act.put, List.setIfInBounds_toArray, List.set_cons_zero, List.set_cons_succ]
            refine wpAnyH_take (i := 9) (v := ?_) rfl (by kernel_rfl) (by kernel_rfl) (by kernel_rfl) (fun _ _ _ h => h) (Or.inl ⟨by rfl, ?_⟩) hS ?_
            rotate_left 1
            · intro w' hSw
              go_simp <;> with_reducible rfl
            try simp only [List.getElem_toArray, List.getElem_cons_zero, List.getElem_cons_succ, Act.put, List.setIfInBounds_toArray, List.set_cons_zero, List.set_cons_succ]
            refine wpAnyH_take (i := 10) (v := ?_) rfl (by kernel_rfl) (by kernel_rfl) (by kernel_rfl) (fun _ _ _ h => h) (Or.inl ⟨by rfl, ?_⟩) hS ?_
            rotate_left 1
            · intro w' hSw
              go_simp <;> with_reducible rfl
            try simp only [List.getElem_toArray, List.getElem_cons_zero, List.getElem_cons_succ, Act.put, List.setIfInBounds_toArray, List.set_cons_zero, List.set_cons_succ]
            refine wpAnyH_done (by kernel_rfl) ?_ _
            have HB7 := Lib.hid hb7
            have HB8 := Lib.hid hb8
            clear hb7 hb8 hS hS7 hS8
            go_wp2
            go_ret
            exact ⟨rfl, HW3.out.trans ((HB6.out.trans ((((Below.refl _ _).drew.trans HB7.out).trans (HB8.out.mono HB7.out.size)).mono HB6.out.size)).mono (by have := HW3.out.size; omega))⟩
    · have cl := HCL.out pn f 4 hf.out hop
      clear hop
      go_wp2_with (at_builtin; refine wpList_append_own _ rfl _ _ 22 rfl w3.heap.size 40 i0 _ 9 56 Try.underlying22 hi hz0 hz1 hz2 rfl (by decide) (.slice (some ⟨w3.heap.size, 0, none⟩) 0 0) 0 [] rfl HM0.out a xs.length c (flatV xs) rfl (by rw [flatV_len]) HC0.out (flatV_one _) (by unfold maxLen; omega) (by omega) (by simp) ?_; intro v1 w4 hown4 hgrow4 hv4)
      simp only [Nat.zero_add, List.nil_append] at hown4
      have hB4 : Below w3.heap.size w3 w4 := ((Below.refl _ _).alloc (Nat.le_refl _) _).grown hgrow4 (by simp) (fun k e => by injection e with e; subst e; exact Nat.le_refl _)
      clear hgrow4 hv4
      go_loopw [9, 10] (fun v i wr => ∃ k : Nat, k ≤ ms.length ∧ i = .int .i64 k ∧ wr.ownsRow w3.heap.size 40 9 v (xs.length + k) (flatV (xs ++ (ms.take k).map tameI)) ∧ Below w3.heap.size w3 wr) (fun _ i _ => ms.length - (intOf i).toNat)
      case atStart => exact ⟨0, Nat.zero_le _, rfl, by simpa using hown4, hB4⟩
      case round =>
        clear hown4 hB4
        obtain ⟨k, hk, rfl, hown, hbr⟩ := hrel
        have HOWN := Lib.hid hown
        have HBR := Lib.hid hbr
        have hbs := hbr.size
        by_cases hlt : k < ms.length
        · have dk : decide ((k : Int) < (ms.length : Int)) = true := decide_eq_true (by omega)
          obtain ⟨b, g, rfl, hb, hg, hc⟩ := (HM3.out.below hbr).at_ hlt
          obtain ⟨e0, e1, e2, e3, e4, e5, e6, e7, e8⟩ := flat9 hc
          have hbl : (b.add (k * 9)).block < wr.heap.size := by rw [add_blk]; exact hb
          clear hc hown hbr
          have hext : Hid (flatV (xs ++ (ms.take k).map tameI) ++ flatV [tameI g] = flatV (xs ++ (ms.take (k + 1)).map tameI)) := Lib.hid (by
            rw [List.take_add_one, hg.out, List.map_append, ← List.append_assoc]; exact (flatV_app _ _).symm)
          have hown2 : ∀ o o', ((wr.alloc o).alloc o').ownsRow w3.heap.size 40 9 u9 (xs.length + k) (flatV (xs ++ (ms.take k).map tameI)) := fun o o' => (HOWN.out.alloc o).alloc o'
          have hgok := HMO.out g (List.mem_of_getElem? hg.out)
          by_cases h7 : g.op = 7
          · have q7 : (g.op == 7) = true := by rw [h7]; rfl
            have ht : tameI g = endI 0 := by unfold tameI; rw [if_pos (.inl h7)]
            have HT := Lib.hid ht
            clear ht
            go_wp2_with (at_builtin; refine wpList_append_own _ rfl (.tmp 144) (.tmp 146) 22 rfl w3.heap.size 40 i0 _ 9 56 Try.underlying22 hi hz0 hz1 hz2 rfl (by decide) u9 (xs.length + k) _ rfl (hown2 _ _) ⟨wr.heap.size + 1, 0, none⟩ 1 1 (insV (endI 0)) rfl rfl (news_new2 wr _ (insV (endI 0)) 40) (insV_one _) (by unfold maxLen; omega) (by omega) (by simp; omega) ?_; intro v2 w5 hown5 hgrow5 hv5)
            have HO5 : Hid (w5.ownsRow w3.heap.size 40 9 v2 (xs.length + (k + 1)) (flatV (xs ++ (ms.take (k + 1)).map tameI))) := Lib.hid (by rw [← hext.out, HT.out, flatV_single]; exact hown5)
            have HB5 : Hid (Below w3.heap.size w3 w5) := Lib.hid (((HBR.out.alloc hbs _).alloc (by simp; omega) _).grown hgrow5 (by simp; omega) (fun k e => (HOWN.out.lt k e).1))
            clear hown5 hgrow5 hv5 hown2
            go_wp2
            go_roundw
            case rel => exact ⟨k + 1, by omega, by go_num, HO5.out, HB5.out⟩
            case measure => simp [intOf]; omega
          have q7 : (g.op == 7) = false := by simpa using h7
          by_cases h8 : g.op = 8
          · have q8 : (g.op == 8) = true := by rw [h8]; rfl
            have ht : tameI g = endI 0 := by unfold tameI; rw [if_pos (.inr h8)]
            have HT := Lib.hid ht
            clear ht
            go_wp2_with (at_builtin; refine wpList_append_own _ rfl (.tmp 144) (.tmp 146) 22 rfl w3.heap.size 40 i0 _ 9 56 Try.underlying22 hi hz0 hz1 hz2 rfl (by decide) u9 (xs.length + k) _ rfl (hown2 _ _) ⟨wr.heap.size + 1, 0, none⟩ 1 1 (insV (endI 0)) rfl rfl (news_new2 wr _ (insV (endI 0)) 40) (insV_one _) (by unfold maxLen; omega) (by omega) (by simp; omega) ?_; intro v2 w5 hown5 hgrow5 hv5)
            have HO5 : Hid (w5.ownsRow w3.heap.size 40 9 v2 (xs.length + (k + 1)) (flatV (xs ++ (ms.take (k + 1)).map tameI))) := Lib.hid (by rw [← hext.out, HT.out, flatV_single]; exact hown5)
            have HB5 : Hid (Below w3.heap.size w3 w5) := Lib.hid (((HBR.out.alloc hbs _).alloc (by simp; omega) _).grown hgrow5 (by simp; omega) (fun k e => (HOWN.out.lt k e).1))
            clear hown5 hgrow5 hv5 hown2
            go_wp2
            go_roundw
            case rel => exact ⟨k + 1, by omega, by go_num, HO5.out, HB5.out⟩
            case measure => simp [intOf]; omega
          · have q8 : (g.op == 8) = false := by simpa using h8
            have ht : tameI g = { g with «to» := 0 } := by unfold tameI; rw [if_neg (fun h => h.elim h7 h8)]
            have HT := Lib.hid ht
            clear ht
            go_wp2_with (at_builtin; refine wpList_append_own _ rfl (.tmp 144) (.tmp 146) 22 rfl w3.heap.size 40 i0 _ 9 56 Try.underlying22 hi hz0 hz1 hz2 rfl (by decide) u9 (xs.length + k) _ rfl (hown2 _ _) ⟨wr.heap.size + 1, 0, none⟩ 1 1 (insV ({ g with «to» := 0 })) rfl rfl (news_new2 wr _ (insV ({ g with «to» := 0 })) 40) (insV_one _) (by unfold maxLen; omega) (by omega) (by simp; omega) ?_; intro v2 w5 hown5 hgrow5 hv5)
            have HO5 : Hid (w5.ownsRow w3.heap.size 40 9 v2 (xs.length + (k + 1)) (flatV (xs ++ (ms.take (k + 1)).map tameI))) := Lib.hid (by rw [← hext.out, HT.out, flatV_single]; exact hown5)
            have HB5 : Hid (Below w3.heap.size w3 w5) := Lib.hid (((HBR.out.alloc hbs _).alloc (by simp; omega) _).grown hgrow5 (by simp; omega) (fun k e => (HOWN.out.lt k e).1))
            clear hown5 hgrow5 hv5 hown2
            go_wp2
            go_roundw
            case rel => exact ⟨k + 1, by omega, by go_num, HO5.out, HB5.out⟩
            case measure => simp [intOf]; omega
        · have dk : decide ((k : Int) < (ms.length : Int)) = false := decide_eq_false (by omega)
          obtain rfl : k = ms.length := by omega
          have hown2 : ∀ o, (wr.alloc o).ownsRow w3.heap.size 40 9 u9 (xs.length + ms.length) (flatV (xs ++ (ms.take ms.length).map tameI)) := fun o => HOWN.out.alloc o
          clear hown hbr
          go_wp2_with (at_builtin; refine wpList_append_own _ rfl (.tmp 148) (.tmp 150) 22 rfl w3.heap.size 40 i0 _ 9 56 Try.underlying22 hi hz0 hz1 hz2 rfl (by decide) u9 (xs.length + ms.length) _ rfl (hown2 _) ⟨wr.heap.size, 0, none⟩ 1 1 (insV (endI 7)) rfl rfl (news_new wr (insV (endI 7)) 40) (insV_one _) (by unfold maxLen; omega) (by omega) (by simp; omega) ?_; intro v2 w6 hown6 hgrow6 hv6)
          have hB6 : Below w3.heap.size w3 w6 := (HBR.out.alloc hbs _).grown hgrow6 (by simp; omega) (fun k e => (HOWN.out.lt k e).1)
          rw [List.take_length] at hown6
          have hown7 : w6.ownsRow w3.heap.size 40 9 v2 (xs.length + ms.length + 1) (flatV (allI xs ms)) := by
            have e1 : flatV (allI xs ms) = flatV (xs ++ ms.map tameI) ++ insV (endI 7) := by unfold allI; rw [← List.append_assoc, flatV_app, flatV_single]
            rw [e1]; exact hown6
          obtain ⟨g9, c9, rfl, hin, _⟩ := own_inss hown7 (by simp [allI]; omega) (by simp [allI]; omega)
          have hal : (allI xs ms).length ≤ 10000 := by simp [allI]; omega
          have HIN := Lib.hid hin
          have HB6 := Lib.hid hB6
          have HP6 := Lib.hid ((HP3.out.below hB6).mono hB6.size)
          have g0 := (hB6.cell (p := ⟨w2.heap.size, 0, none⟩) (by show w2.heap.size < _; omega)).trans cR0
          have g1 := (hB6.cell (p := ⟨w2.heap.size, 1, none⟩) (by show w2.heap.size < _; omega)).trans cR1
          have g2 := (hB6.cell (p := ⟨w2.heap.size, 2, none⟩) (by show w2.heap.size < _; omega)).trans cR2
          have g3 := (hB6.cell (p := ⟨w2.heap.size, 3, none⟩) (by show w2.heap.size < _; omega)).trans cR3
          have h26 : w2.heap.size < w6.heap.size := by have := hB6.size; omega
          clear hown6 hgrow6 hv6 hown7 hown2 hin hB6 cR0 cR1 cR2 cR3
          have hao := all_ok HIO.out HMO.out
          have HAO := Lib.hid hao
          clear hao
          obtain ⟨al, hal2⟩ : ∃ al, Hid (al = allI xs ms) := ⟨_, Lib.hid rfl⟩
          rw [← hal2.out] at HIN HAO hal ⊢
          cases hra : rightP al with
          | false =>
            have HRA := Lib.hid hra
            clear hra
            go_wp2
            refine wp_region_held_drew (S := fun w' => w'.cell? ⟨w2.heap.size, 0, none⟩ = some (.int .i64 112) ∧ w'.cell? ⟨w2.heap.size, 1, none⟩ = some (.int .i64 (pn : Int)) ∧ w'.cell? ⟨w2.heap.size, 2, none⟩ = some (.int .u64 0) ∧ w'.cell? ⟨w2.heap.size, 3, none⟩ = some (.int .i64 sn)) (by kernel_rfl) ⟨g0, g1, g2, g3⟩ (fun hS => ?_)
            refine wpAnyH_take (i := 0) (v := ?_) rfl (by kernel_rfl) (by kernel_rfl) (by kernel_rfl) (fun _ _ _ h => h) (Or.inl ⟨by rfl, ?_⟩) hS ?_
            rotate_left 1
            · intro w' hSw
              go_simp <;> with_reducible rfl
            try simp only [List.getElem_toArray, List.getElem_cons_zero, List.getElem_cons_succ, Act.put, List.setIfInBounds_toArray, List.set_cons_zero, List.set_cons_succ]
            refine wpAnyH_ready (rs := [1]) (by kernel_rfl) (by simp) (AllReadyH.cons rfl (fun K hK => ?_) AllReadyH.nil)
            go_simp
            refine (right_any (some ⟨g9, 0, none⟩) c9 al w6.drew HIN.out).mono ?_
            rintro _ w7 ⟨rfl, hb7⟩
            rw [HRA.out]
            have hS7 : w7.cell? ⟨w2.heap.size, 0, none⟩ = some (.int .i64 112) ∧ w7.cell? ⟨w2.heap.size, 1, none⟩ = some (.int .i64 (pn : Int)) ∧ w7.cell? ⟨w2.heap.size, 2, none⟩ = some (.int .u64 0) ∧ w7.cell? ⟨w2.heap.size, 3, none⟩ = some (.int .i64 sn) := ⟨(hb7.cell (p := ⟨w2.heap.size, 0, none⟩) h26).trans g0, (hb7.cell (p := ⟨w2.heap.size, 1, none⟩) h26).trans g1, (hb7.cell (p := ⟨w2.heap.size, 2, none⟩) h26).trans g2, (hb7.cell (p := ⟨w2.heap.size, 3, none⟩) h26).trans g3⟩
            go_simp
            refine hK _ _ hS7 (fun hS => ?_)
            clear hK K
            try simp only [List.getElem_toArray, List.getElem_cons_zero, List.getElem_cons_succ, Act.put, List.setIfInBounds_toArray, List.set_cons_zero, List.set_cons_succ]
            refine wpAnyH_take (i := 2) (v := ?_) rfl (by kernel_rfl) (by kernel_rfl) (by kernel_rfl) (fun _ _ _ h => h) (Or.inl ⟨by rfl, ?_⟩) hS ?_
            rotate_left 1
            · intro w' hSw
              go_simp <;> with_reducible rfl
            try simp only [List.getElem_toArray, List.getElem_cons_zero, List.getElem_cons_succ, Act.put, List.setIfInBounds_toArray, List.set_cons_zero, List.set_cons_succ]
            refine wpAnyH_take (i := 3) (v := ?_) rfl (by kernel_rfl) (by kernel_rfl) (by kernel_rfl) (fun _ _ _ h => h) (Or.inl ⟨by rfl, ?_⟩) hS ?_
            rotate_left 1
            · intro w' hSw
              go_simp <;> with_reducible rfl
            try simp only [List.getElem_toArray, List.getElem_cons_zero, List.getElem_cons_succ, Act.put, List.setIfInBounds_toArray, List.set_cons_zero, List.set_cons_succ]
            refine wpAnyH_take (i := 4) (v := undef) rfl (by kernel_rfl) (by kernel_rfl) (by kernel_rfl) (fun _ _ _ h => h) (Or.inr ⟨by go_simp, rfl⟩) hS ?_
            try simp only [List.getElem_toArray, List.getElem_cons_zero, List.getElem_cons_succ, Act.put, List.setIfInBounds_toArray, List.set_cons_zero, List.set_cons_succ]
            refine wpAnyH_take (i := 5) (v := undef) rfl (by kernel_rfl) (by kernel_rfl) (by kernel_rfl) (fun _ _ _ h => h) (Or.inr ⟨by go_simp, rfl⟩) hS ?_
            try simp only [List.getElem_toArray, List.getElem_cons_zero, List.getElem_cons_succ, Act.put, List.setIfInBounds_toArray, List.set_cons_zero, List.set_cons_succ]
            refine wpAnyH_take (i := 6) (v := undef) rfl (by kernel_rfl) (by kernel_rfl) (by kernel_rfl) (fun _ _ _ h => h) (Or.inr ⟨by go_simp, rfl⟩) hS ?_
            try simp only [List.getElem_toArray, List.getElem_cons_zero, List.getElem_cons_succ, Act.put, List.setIfInBounds_toArray, List.set_cons_zero, List.set_cons_succ]
            refine wpAnyH_take (i := 7) (v := undef) rfl (by kernel_rfl) (by kernel_rfl) (by kernel_rfl) (fun _ _ _ h => h) (Or.inr ⟨by go_simp, rfl⟩) hS ?_
            try simp only [List.getElem_toArray, List.getElem_cons_zero, List.getElem_cons_succ, Act.put, List.setIfInBounds_toArray, List.set_cons_zero, List.set_cons_succ]
            refine wpAnyH_take (i := 8) (v := undef) rfl (by kernel_rfl) (by kernel_rfl) (by kernel_rfl) (fun _ _ _ h => h) (Or.inr ⟨by go_simp, rfl⟩) hS ?_
            try simp only [List.getElem_toArray, List.getElem_cons_zero, List.getElem_cons_succ, Act.put, List.setIfInBounds_toArray, List.set_cons_zero, List.set_cons_succ]
            refine wpAnyH_take (i := 9) (v := ?_) rfl (by kernel_rfl) (by kernel_rfl) (by kernel_rfl) (fun _ _ _ h => h) (Or.inl ⟨by rfl, ?_⟩) hS ?_
            rotate_left 1
            · intro w' hSw
              go_simp <;> with_reducible rfl
            try simp only [List.getElem_toArray, List.getElem_cons_zero, List.getElem_cons_succ, Act.put, List.setIfInBounds_toArray, List.set_cons_zero, List.set_cons_succ]
            refine wpAnyH_take (i := 10) (v := ?_) rfl (by kernel_rfl) (by kernel_rfl) (by kernel_rfl) (fun _ _ _ h => h) (Or.inl ⟨by rfl, ?_⟩) hS ?_
            rotate_left 1
            · intro w' hSw
              go_simp <;> with_reducible rfl
            try simp only [List.getElem_toArray, List.getElem_cons_zero, List.getElem_cons_succ, Act.put, List.setIfInBounds_toArray, List.set_cons_zero, List.set_cons_succ]
            refine wpAnyH_done (by kernel_rfl) ?_ _
            have HB7 := Lib.hid hb7
            clear hb7 hS hS7
            go_wp2
            go_ret
            exact ⟨rfl, HW3.out.trans ((HB6.out.trans (((Below.refl _ _).drew.trans HB7.out).mono HB6.out.size)).mono (by have := HW3.out.size; omega))⟩
          | true =>
            have HRA := Lib.hid hra
            clear hra
            have hEX : Hid (doP pk al = ⟨112, (pn : Int), 0, sn⟩) := Lib.hid (by rw [hal2.out]; unfold allI; rw [do_ext pk xs _ HRI.out (by have := HRA.out; rw [hal2.out] at this; exact this) HIO.out HPB.out (by omega)]; exact HO.out.symm)
            have q := outE_same ⟨112, (pn : Int), 0, sn⟩
            go_wp2
            refine wp_region_held_drew (S := fun w' => w'.cell? ⟨w2.heap.size, 0, none⟩ = some (.int .i64 112) ∧ w'.cell? ⟨w2.heap.size, 1, none⟩ = some (.int .i64 (pn : Int)) ∧ w'.cell? ⟨w2.heap.size, 2, none⟩ = some (.int .u64 0) ∧ w'.cell? ⟨w2.heap.size, 3, none⟩ = some (.int .i64 sn)) (by kernel_rfl) ⟨g0, g1, g2, g3⟩ (fun hS => ?_)
            refine wpAnyH_take (i := 0) (v := ?_) rfl (by kernel_rfl) (by kernel_rfl) (by kernel_rfl) (fun _ _ _ h => h) (Or.inl ⟨by rfl, ?_⟩) hS ?_
            rotate_left 1
            · intro w' hSw
              go_simp <;> with_reducible rfl
            try simp only [List.getElem_toArray, List.getElem_cons_zero, List.getElem_cons_succ, Act.put, List.setIfInBounds_toArray, List.set_cons_zero, List.set_cons_succ]
            refine wpAnyH_ready (rs := [1]) (by kernel_rfl) (by simp) (AllReadyH.cons rfl (fun K hK => ?_) AllReadyH.nil)
            go_simp
            refine (right_any (some ⟨g9, 0, none⟩) c9 al w6.drew HIN.out).mono ?_
            rintro _ w7 ⟨rfl, hb7⟩
            rw [HRA.out]
            have hS7 : w7.cell? ⟨w2.heap.size, 0, none⟩ = some (.int .i64 112) ∧ w7.cell? ⟨w2.heap.size, 1, none⟩ = some (.int .i64 (pn : Int)) ∧ w7.cell? ⟨w2.heap.size, 2, none⟩ = some (.int .u64 0) ∧ w7.cell? ⟨w2.heap.size, 3, none⟩ = some (.int .i64 sn) := ⟨(hb7.cell (p := ⟨w2.heap.size, 0, none⟩) h26).trans g0, (hb7.cell (p := ⟨w2.heap.size, 1, none⟩) h26).trans g1, (hb7.cell (p := ⟨w2.heap.size, 2, none⟩) h26).trans g2, (hb7.cell (p := ⟨w2.heap.size, 3, none⟩) h26).trans g3⟩
            go_simp
            refine hK _ _ hS7 (fun hS => ?_)
            clear hK K
            try simp only [List.getElem_toArray, List.getElem_cons_zero, List.getElem_cons_succ, Act.put, List.setIfInBounds_toArray, List.set_cons_zero, List.set_cons_succ]
            refine wpAnyH_take (i := 2) (v := ?_) rfl (by kernel_rfl) (by kernel_rfl) (by kernel_rfl) (fun _ _ _ h => h) (Or.inl ⟨by rfl, ?_⟩) hS ?_
            rotate_left 1
            · intro w' hSw
              go_simp <;> with_reducible rfl
            try simp only [List.getElem_toArray, List.getElem_cons_zero, List.getElem_cons_succ, Act.put, List.setIfInBounds_toArray, List.set_cons_zero, List.set_cons_succ]
            refine wpAnyH_take (i := 3) (v := ?_) rfl (by kernel_rfl) (by kernel_rfl) (by kernel_rfl) (fun _ _ _ h => h) (Or.inl ⟨by rfl, ?_⟩) hS ?_
            rotate_left 1
            · intro w' hSw
              go_simp <;> with_reducible rfl
            try simp only [List.getElem_toArray, List.getElem_cons_zero, List.getElem_cons_succ, Act.put, List.setIfInBounds_toArray, List.set_cons_zero, List.set_cons_succ]
            refine wpAnyH_take (i := 4) (v := ?_) rfl (by kernel_rfl) (by kernel_rfl) (by kernel_rfl) (fun _ _ _ h => h) (Or.inl ⟨by go_simp, ?_⟩) hS ?_
            rotate_left 1
            · intro w' hSw
              go_simp <;> with_reducible rfl
            try simp only [List.getElem_toArray, List.getElem_cons_zero, List.getElem_cons_succ, Act.put, List.setIfInBounds_toArray, List.set_cons_zero, List.set_cons_succ]
            refine wpAnyH_take (i := 5) (v := ?_) rfl (by kernel_rfl) (by kernel_rfl) (by kernel_rfl) (fun _ _ _ h => h) (Or.inl ⟨by go_simp, ?_⟩) hS ?_
            rotate_left 1
            · intro w' hSw
              go_simp <;> with_reducible rfl
            try simp only [List.getElem_toArray, List.getElem_cons_zero, List.getElem_cons_succ, Act.put, List.setIfInBounds_toArray, List.set_cons_zero, List.set_cons_succ]
            refine wpAnyH_take (i := 7) (v := ?_) rfl (by kernel_rfl) (by kernel_rfl) (by kernel_rfl) (fun _ _ _ h => h) (Or.inl ⟨by go_simp, ?_⟩) hS ?_
            rotate_left 1
            · intro w' hSw
              go_simp <;> with_reducible rfl
            try simp only [List.getElem_toArray, List.getElem_cons_zero, List.getElem_cons_succ, Act.put, List.setIfInBounds_toArray, List.set_cons_zero, List.set_cons_succ]
            refine wpAnyH_ready (rs := [6]) (by kernel_rfl) (by simp) (AllReadyH.cons rfl (fun K hK => ?_) AllReadyH.nil)
            go_simp
            refine (doR_any (some ⟨g9, 0, none⟩) c9 al P d pk w7 (Inss.below (show Inss w6.drew _ _ _ _ from HIN.out) hb7) ((Rd.below (show Rd w6.drew w6.drew.heap.size P d (u8s pk) from HP6.out) hb7).mono hb7.size) HPB.out (by omega) HAO.out).mono ?_
            rintro _ w8 ⟨rfl, hb8⟩
            rw [hEX.out]
            have hS8 : w8.cell? ⟨w2.heap.size, 0, none⟩ = some (.int .i64 112) ∧ w8.cell? ⟨w2.heap.size, 1, none⟩ = some (.int .i64 (pn : Int)) ∧ w8.cell? ⟨w2.heap.size, 2, none⟩ = some (.int .u64 0) ∧ w8.cell? ⟨w2.heap.size, 3, none⟩ = some (.int .i64 sn) := ⟨(hb8.cell (p := ⟨w2.heap.size, 0, none⟩) (Nat.lt_of_lt_of_le h26 hb7.size)).trans hS7.1, (hb8.cell (p := ⟨w2.heap.size, 1, none⟩) (Nat.lt_of_lt_of_le h26 hb7.size)).trans hS7.2.1, (hb8.cell (p := ⟨w2.heap.size, 2, none⟩) (Nat.lt_of_lt_of_le h26 hb7.size)).trans hS7.2.2.1, (hb8.cell (p := ⟨w2.heap.size, 3, none⟩) (Nat.lt_of_lt_of_le h26 hb7.size)).trans hS7.2.2.2⟩
            simp only [outA, outV]
            go_simp
            refine hK _ _ hS8 (fun hS => ?_)
            clear hK K
            try simp only [List.getElem_toArray, List.getElem_cons_zero, List.getElem_cons_succ, Act.put, List.setIfInBounds_toArray, List.set_cons_zero, List.set_cons_succ]
            refine wpAnyH_take (i := 8) (v := ?_) rfl (by kernel_rfl) (by kernel_rfl) (by kernel_rfl) (fun _ _ _ h => h) (Or.inl ⟨by go_simp, ?_⟩) hS ?_
            rotate_left 1
            · intro w' hSw
              go_simp <;> with_reducible rfl
            try simp only [List.getElem_toArray, List.getElem_cons_zero, List.getElem_cons_succ, Act.put, List.setIfInBounds_toArray, List.set_cons_zero, List.set_cons_succ]
            refine wpAnyH_take (i := 9) (v := ?_) rfl (by kernel_rfl) (by kernel_rfl) (by kernel_rfl) (fun _ _ _ h => h) (Or.inl ⟨by rfl, ?_⟩) hS ?_
            rotate_left 1
            · intro w' hSw
              go_simp <;> with_reducible rfl
            try simp only [List.getElem_toArray, List.getElem_cons_zero, List.getElem_cons_succ, Act.put, List.setIfInBounds_toArray, List.set_cons_zero, List.set_cons_succ]
            refine wpAnyH_take (i := 10) (v := ?_) rfl (by kernel_rfl) (by kernel_rfl) (by kernel_rfl) (fun _ _ _ h => h) (Or.inl ⟨by rfl, ?_⟩) hS ?_
            rotate_left 1
            · intro w' hSw
              go_simp <;> with_reducible rfl
            try simp only [List.getElem_toArray, List.getElem_cons_zero, List.getElem_cons_succ, Act.put, List.setIfInBounds_toArray, List.set_cons_zero, List.set_cons_succ]
            refine wpAnyH_done (by kernel_rfl) ?_ _
            have HB7 := Lib.hid hb7
            have HB8 := Lib.hid hb8
            clear hb7 hb8 hS hS7 hS8
            go_wp2
            go_ret
            exact ⟨rfl, HW3.out.trans ((HB6.out.trans ((((Below.refl _ _).drew.trans HB7.out).trans (HB8.out.mono HB7.out.size)).mono HB6.out.size)).mono (by have := HW3.out.size; omega))⟩
    · have cl := HCL.out pn f 5 hf.out hop
      clear hop
      go_wp2_with (at_builtin; refine wpList_append_own _ rfl _ _ 22 rfl w3.heap.size 40 i0 _ 9 56 Try.underlying22 hi hz0 hz1 hz2 rfl (by decide) (.slice (some ⟨w3.heap.size, 0, none⟩) 0 0) 0 [] rfl HM0.out a xs.length c (flatV xs) rfl (by rw [flatV_len]) HC0.out (flatV_one _) (by unfold maxLen; omega) (by omega) (by simp) ?_; intro v1 w4 hown4 hgrow4 hv4)
      simp only [Nat.zero_add, List.nil_append] at hown4
      have hB4 : Below w3.heap.size w3 w4 := ((Below.refl _ _).alloc (Nat.le_refl _) _).grown hgrow4 (by simp) (fun k e => by injection e with e; subst e; exact Nat.le_refl _)
      clear hgrow4 hv4
      go_loopw [9, 10] (fun v i wr => ∃ k : Nat, k ≤ ms.length ∧ i = .int .i64 k ∧ wr.ownsRow w3.heap.size 40 9 v (xs.length + k) (flatV (xs ++ (ms.take k).map tameI)) ∧ Below w3.heap.size w3 wr) (fun _ i _ => ms.length - (intOf i).toNat)
      case atStart => exact ⟨0, Nat.zero_le _, rfl, by simpa using hown4, hB4⟩
      case round =>
        clear hown4 hB4
        obtain ⟨k, hk, rfl, hown, hbr⟩ := hrel
        have HOWN := Lib.hid hown
        have HBR := Lib.hid hbr
        have hbs := hbr.size
        by_cases hlt : k < ms.length
        · have dk : decide ((k : Int) < (ms.length : Int)) = true := decide_eq_true (by omega)
          obtain ⟨b, g, rfl, hb, hg, hc⟩ := (HM3.out.below hbr).at_ hlt
          obtain ⟨e0, e1, e2, e3, e4, e5, e6, e7, e8⟩ := flat9 hc
          have hbl : (b.add (k * 9)).block < wr.heap.size := by rw [add_blk]; exact hb
          clear hc hown hbr
          have hext : Hid (flatV (xs ++ (ms.take k).map tameI) ++ flatV [tameI g] = flatV (xs ++ (ms.take (k + 1)).map tameI)) := Lib.hid (by
            rw [List.take_add_one, hg.out, List.map_append, ← List.append_assoc]; exact (flatV_app _ _).symm)
          have hown2 : ∀ o o', ((wr.alloc o).alloc o').ownsRow w3.heap.size 40 9 u9 (xs.length + k) (flatV (xs ++ (ms.take k).map tameI)) := fun o o' => (HOWN.out.alloc o).alloc o'
          have hgok := HMO.out g (List.mem_of_getElem? hg.out)
          by_cases h7 : g.op = 7
          · have q7 : (g.op == 7) = true := by rw [h7]; rfl
            have ht : tameI g = endI 0 := by unfold tameI; rw [if_pos (.inl h7)]
            have HT := Lib.hid ht
            clear ht
            go_wp2_with (at_builtin; refine wpList_append_own _ rfl (.tmp 144) (.tmp 146) 22 rfl w3.heap.size 40 i0 _ 9 56 Try.underlying22 hi hz0 hz1 hz2 rfl (by decide) u9 (xs.length + k) _ rfl (hown2 _ _) ⟨wr.heap.size + 1, 0, none⟩ 1 1 (insV (endI 0)) rfl rfl (news_new2 wr _ (insV (endI 0)) 40) (insV_one _) (by unfold maxLen; omega) (by omega) (by simp; omega) ?_; intro v2 w5 hown5 hgrow5 hv5)
            have HO5 : Hid (w5.ownsRow w3.heap.size 40 9 v2 (xs.length + (k + 1)) (flatV (xs ++ (ms.take (k + 1)).map tameI))) := Lib.hid (by rw [← hext.out, HT.out, flatV_single]; exact hown5)
            have HB5 : Hid (Below w3.heap.size w3 w5) := Lib.hid (((HBR.out.alloc hbs _).alloc (by simp; omega) _).grown hgrow5 (by simp; omega) (fun k e => (HOWN.out.lt k e).1))
            clear hown5 hgrow5 hv5 hown2
            go_wp2
            go_roundw
            case rel => exact ⟨k + 1, by omega, by go_num, HO5.out, HB5.out⟩
            case measure => simp [intOf]; omega
          have q7 : (g.op == 7) = false := by simpa using h7
          by_cases h8 : g.op = 8
          · have q8 : (g.op == 8) = true := by rw [h8]; rfl
            have ht : tameI g = endI 0 := by unfold tameI; rw [if_pos (.inr h8)]
            have HT := Lib.hid ht
            clear ht
            go_wp2_with (at_builtin; refine wpList_append_own _ rfl (.tmp 144) (.tmp 146) 22 rfl w3.heap.size 40 i0 _ 9 56 Try.underlying22 hi hz0 hz1 hz2 rfl (by decide) u9 (xs.length + k) _ rfl (hown2 _ _) ⟨wr.heap.size + 1, 0, none⟩ 1 1 (insV (endI 0)) rfl rfl (news_new2 wr _ (insV (endI 0)) 40) (insV_one _) (by unfold maxLen; omega) (by omega) (by simp; omega) ?_; intro v2 w5 hown5 hgrow5 hv5)
            have HO5 : Hid (w5.ownsRow w3.heap.size 40 9 v2 (xs.length + (k + 1)) (flatV (xs ++ (ms.take (k + 1)).map tameI))) := Lib.hid (by rw [← hext.out, HT.out, flatV_single]; exact hown5)
            have HB5 : Hid (Below w3.heap.size w3 w5) := Lib.hid (((HBR.out.alloc hbs _).alloc (by simp; omega) _).grown hgrow5 (by simp; omega) (fun k e => (HOWN.out.lt k e).1))
            clear hown5 hgrow5 hv5 hown2
            go_wp2
            go_roundw
            case rel => exact ⟨k + 1, by omega, by go_num, HO5.out, HB5.out⟩
            case measure => simp [intOf]; omega
          · have q8 : (g.op == 8) = false := by simpa using h8
            have ht : tameI g = { g with «to» := 0 } := by unfold tameI; rw [if_neg (fun h => h.elim h7 h8)]
            have HT := Lib.hid ht
            clear ht
            go_wp2_with (at_builtin; refine wpList_append_own _ rfl (.tmp 144) (.tmp 146) 22 rfl w3.heap.size 40 i0 _ 9 56 Try.underlying22 hi hz0 hz1 hz2 rfl (by decide) u9 (xs.length + k) _ rfl (hown2 _ _) ⟨wr.heap.size + 1, 0, none⟩ 1 1 (insV ({ g with «to» := 0 })) rfl rfl (news_new2 wr _ (insV ({ g with «to» := 0 })) 40) (insV_one _) (by unfold maxLen; omega) (by omega) (by simp; omega) ?_; intro v2 w5 hown5 hgrow5 hv5)
            have HO5 : Hid (w5.ownsRow w3.heap.size 40 9 v2 (xs.length + (k + 1)) (flatV (xs ++ (ms.take (k + 1)).map tameI))) := Lib.hid (by rw [← hext.out, HT.out, flatV_single]; exact hown5)
            have HB5 : Hid (Below w3.heap.size w3 w5) := Lib.hid (((HBR.out.alloc hbs _).alloc (by simp; omega) _).grown hgrow5 (by simp; omega) (fun k e => (HOWN.out.lt k e).1))
            clear hown5 hgrow5 hv5 hown2
            go_wp2
            go_roundw
            case rel => exact ⟨k + 1, by omega, by go_num, HO5.out, HB5.out⟩
            case measure => simp [intOf]; omega
        · have dk : decide ((k : Int) < (ms.length : Int)) = false := decide_eq_false (by omega)
          obtain rfl : k = ms.length := by omega
          have hown2 : ∀ o, (wr.alloc o).ownsRow w3.heap.size 40 9 u9 (xs.length + ms.length) (flatV (xs ++ (ms.take ms.length).map tameI)) := fun o => HOWN.out.alloc o
          clear hown hbr
          go_wp2_with (at_builtin; refine wpList_append_own _ rfl (.tmp 148) (.tmp 150) 22 rfl w3.heap.size 40 i0 _ 9 56 Try.underlying22 hi hz0 hz1 hz2 rfl (by decide) u9 (xs.length + ms.length) _ rfl (hown2 _) ⟨wr.heap.size, 0, none⟩ 1 1 (insV (endI 7)) rfl rfl (news_new wr (insV (endI 7)) 40) (insV_one _) (by unfold maxLen; omega) (by omega) (by simp; omega) ?_; intro v2 w6 hown6 hgrow6 hv6)
          have hB6 : Below w3.heap.size w3 w6 := (HBR.out.alloc hbs _).grown hgrow6 (by simp; omega) (fun k e => (HOWN.out.lt k e).1)
          rw [List.take_length] at hown6
          have hown7 : w6.ownsRow w3.heap.size 40 9 v2 (xs.length + ms.length + 1) (flatV (allI xs ms)) := by
            have e1 : flatV (allI xs ms) = flatV (xs ++ ms.map tameI) ++ insV (endI 7) := by unfold allI; rw [← List.append_assoc, flatV_app, flatV_single]
            rw [e1]; exact hown6
          obtain ⟨g9, c9, rfl, hin, _⟩ := own_inss hown7 (by simp [allI]; omega) (by simp [allI]; omega)
          have hal : (allI xs ms).length ≤ 10000 := by simp [allI]; omega
          have HIN := Lib.hid hin
          have HB6 := Lib.hid hB6
          have HP6 := Lib.hid ((HP3.out.below hB6).mono hB6.size)
          have g0 := (hB6.cell (p := ⟨w2.heap.size, 0, none⟩) (by show w2.heap.size < _; omega)).trans cR0
          have g1 := (hB6.cell (p := ⟨w2.heap.size, 1, none⟩) (by show w2.heap.size < _; omega)).trans cR1
          have g2 := (hB6.cell (p := ⟨w2.heap.size, 2, none⟩) (by show w2.heap.size < _; omega)).trans cR2
          have g3 := (hB6.cell (p := ⟨w2.heap.size, 3, none⟩) (by show w2.heap.size < _; omega)).trans cR3
          have h26 : w2.heap.size < w6.heap.size := by have := hB6.size; omega
          clear hown6 hgrow6 hv6 hown7 hown2 hin hB6 cR0 cR1 cR2 cR3
          have hao := all_ok HIO.out HMO.out
          have HAO := Lib.hid hao
          clear hao
          obtain ⟨al, hal2⟩ : ∃ al, Hid (al = allI xs ms) := ⟨_, Lib.hid rfl⟩
          rw [← hal2.out] at HIN HAO hal ⊢
          cases hra : rightP al with
          | false =>
            have HRA := Lib.hid hra
            clear hra
            go_wp2
            refine wp_region_held_drew (S := fun w' => w'.cell? ⟨w2.heap.size, 0, none⟩ = some (.int .i64 112) ∧ w'.cell? ⟨w2.heap.size, 1, none⟩ = some (.int .i64 (pn : Int)) ∧ w'.cell? ⟨w2.heap.size, 2, none⟩ = some (.int .u64 0) ∧ w'.cell? ⟨w2.heap.size, 3, none⟩ = some (.int .i64 sn)) (by kernel_rfl) ⟨g0, g1, g2, g3⟩ (fun hS => ?_)
            refine wpAnyH_take (i := 0) (v := ?_) rfl (by kernel_rfl) (by kernel_rfl) (by kernel_rfl) (fun _ _ _ h => h) (Or.inl ⟨by rfl, ?_⟩) hS ?_
            rotate_left 1
            · intro w' hSw
              go_simp <;> with_reducible rfl
            try simp only [List.getElem_toArray, List.getElem_cons_zero, List.getElem_cons_succ, Act.put, List.setIfInBounds_toArray, List.set_cons_zero, List.set_cons_succ]
            refine wpAnyH_ready (rs := [1]) (by kernel_rfl) (by simp) (AllReadyH.cons rfl (fun K hK => ?_) AllReadyH.nil)
            go_simp
            refine (right_any (some ⟨g9, 0, none⟩) c9 al w6.drew HIN.out).mono ?_
            rintro _ w7 ⟨rfl, hb7⟩
            rw [HRA.out]
            have hS7 : w7.cell? ⟨w2.heap.size, 0, none⟩ = some (.int .i64 112) ∧ w7.cell? ⟨w2.heap.size, 1, none⟩ = some (.int .i64 (pn : Int)) ∧ w7.cell? ⟨w2.heap.size, 2, none⟩ = some (.int .u64 0) ∧ w7.cell? ⟨w2.heap.size, 3, none⟩ = some (.int .i64 sn) := ⟨(hb7.cell (p := ⟨w2.heap.size, 0, none⟩) h26).trans g0, (hb7.cell (p := ⟨w2.heap.size, 1, none⟩) h26).trans g1, (hb7.cell (p := ⟨w2.heap.size, 2, none⟩) h26).trans g2, (hb7.cell (p := ⟨w2.heap.size, 3, none⟩) h26).trans g3⟩
            go_simp
            refine hK _ _ hS7 (fun hS => ?_)
            clear hK K
            try simp only [List.getElem_toArray, List.getElem_cons_zero, List.getElem_cons_succ, Act.put, List.setIfInBounds_toArray, List.set_cons_zero, List.set_cons_succ]
            refine wpAnyH_take (i := 2) (v := ?_) rfl (by kernel_rfl) (by kernel_rfl) (by kernel_rfl) (fun _ _ _ h => h) (Or.inl ⟨by rfl, ?_⟩) hS ?_
            rotate_left 1
            · intro w' hSw
              go_simp <;> with_reducible rfl
            try simp only [List.getElem_toArray, List.getElem_cons_zero, List.getElem_cons_succ, Act.put, List.setIfInBounds_toArray, List.set_cons_zero, List.set_cons_succ]
            refine wpAnyH_take (i := 3) (v := ?_) rfl (by kernel_rfl) (by kernel_rfl) (by kernel_rfl) (fun _ _ _ h => h) (Or.inl ⟨by rfl, ?_⟩) hS ?_
            rotate_left 1
            · intro w' hSw
              go_simp <;> with_reducible rfl
            try simp only [List.getElem_toArray, List.getElem_cons_zero, List.getElem_cons_succ, Act.put, List.setIfInBounds_toArray, List.set_cons_zero, List.set_cons_succ]
            refine wpAnyH_take (i := 4) (v := undef) rfl (by kernel_rfl) (by kernel_rfl) (by kernel_rfl) (fun _ _ _ h => h) (Or.inr ⟨by go_simp, rfl⟩) hS ?_
            try simp only [List.getElem_toArray, List.getElem_cons_zero, List.getElem_cons_succ, Act.put, List.setIfInBounds_toArray, List.set_cons_zero, List.set_cons_succ]
            refine wpAnyH_take (i := 5) (v := undef) rfl (by kernel_rfl) (by kernel_rfl) (by kernel_rfl) (fun _ _ _ h => h) (Or.inr ⟨by go_simp, rfl⟩) hS ?_
            try simp only [List.getElem_toArray, List.getElem_cons_zero, List.getElem_cons_succ, Act.put, List.setIfInBounds_toArray, List.set_cons_zero, List.set_cons_succ]
            refine wpAnyH_take (i := 6) (v := undef) rfl (by kernel_rfl) (by kernel_rfl) (by kernel_rfl) (fun _ _ _ h => h) (Or.inr ⟨by go_simp, rfl⟩) hS ?_
            try simp only [List.getElem_toArray, List.getElem_cons_zero, List.getElem_cons_succ, Act.put, List.setIfInBounds_toArray, List.set_cons_zero, List.set_cons_succ]
            refine wpAnyH_take (i := 7) (v := undef) rfl (by kernel_rfl) (by kernel_rfl) (by kernel_rfl) (fun _ _ _ h => h) (Or.inr ⟨by go_simp, rfl⟩) hS ?_
            try simp only [List.getElem_toArray, List.getElem_cons_zero, List.getElem_cons_succ, Act.put, List.setIfInBounds_toArray, List.set_cons_zero, List.set_cons_succ]
            refine wpAnyH_take (i := 8) (v := undef) rfl (by kernel_rfl) (by kernel_rfl) (by kernel_rfl) (fun _ _ _ h => h) (Or.inr ⟨by go_simp, rfl⟩) hS ?_
            try simp only [List.getElem_toArray, List.getElem_cons_zero, List.getElem_cons_succ, Act.put, List.setIfInBounds_toArray, List.set_cons_zero, List.set_cons_succ]
            refine wpAnyH_take (i := 9) (v := ?_) rfl (by kernel_rfl) (by kernel_rfl) (by kernel_rfl) (fun _ _ _ h => h) (Or.inl ⟨by rfl, ?_⟩) hS ?_
            rotate_left 1
            · intro w' hSw
              go_simp <;> with_reducible rfl
            try simp only [List.getElem_toArray, List.getElem_cons_zero, List.getElem_cons_succ, Act.put, List.setIfInBounds_toArray, List.set_cons_zero, List.set_cons_succ]
            refine wpAnyH_take (i := 10) (v := ?_) rfl (by kernel_rfl) (by kernel_rfl) (by kernel_rfl) (fun _ _ _ h => h) (Or.inl ⟨by rfl, ?_⟩) hS ?_
            rotate_left 1
            · intro w' hSw
              go_simp <;> with_reducible rfl
            try simp only [List.getElem_toArray, List.getElem_cons_zero, List.getElem_cons_succ, Act.put, List.setIfInBounds_toArray, List.set_cons_zero, List.set_cons_succ]
            refine wpAnyH_done (by kernel_rfl) ?_ _
            have HB7 := Lib.hid hb7
            clear hb7 hS hS7
            go_wp2
            go_ret
            exact ⟨rfl, HW3.out.trans ((HB6.out.trans (((Below.refl _ _).drew.trans HB7.out).mono HB6.out.size)).mono (by have := HW3.out.size; omega))⟩
          | true =>
            have HRA := Lib.hid hra
            clear hra
            have hEX : Hid (doP pk al = ⟨112, (pn : Int), 0, sn⟩) := Lib.hid (by rw [hal2.out]; unfold allI; rw [do_ext pk xs _ HRI.out (by have := HRA.out; rw [hal2.out] at this; exact this) HIO.out HPB.out (by omega)]; exact HO.out.symm)
            have q := outE_same ⟨112, (pn : Int), 0, sn⟩
            go_wp2
            refine wp_region_held_drew (S := fun w' => w'.cell? ⟨w2.heap.size, 0, none⟩ = some (.int .i64 112) ∧ w'.cell? ⟨w2.heap.size, 1, none⟩ = some (.int .i64 (pn : Int)) ∧ w'.cell? ⟨w2.heap.size, 2, none⟩ = some (.int .u64 0) ∧ w'.cell? ⟨w2.heap.size, 3, none⟩ = some (.int .i64 sn)) (by kernel_rfl) ⟨g0, g1, g2, g3⟩ (fun hS => ?_)
            refine wpAnyH_take (i := 0) (v := ?_) rfl (by kernel_rfl) (by kernel_rfl) (by kernel_rfl) (fun _ _ _ h => h) (Or.inl ⟨by rfl, ?_⟩) hS ?_
            rotate_left 1
            · intro w' hSw
              go_simp <;> with_reducible rfl
            try simp only [List.getElem_toArray, List.getElem_cons_zero, List.getElem_cons_succ, Act.put, List.setIfInBounds_toArray, List.set_cons_zero, List.set_cons_succ]
            refine wpAnyH_ready (rs := [1]) (by kernel_rfl) (by simp) (AllReadyH.cons rfl (fun K hK => ?_) AllReadyH.nil)
            go_simp
            refine (right_any (some ⟨g9, 0, none⟩) c9 al w6.drew HIN.out).mono ?_
            rintro _ w7 ⟨rfl, hb7⟩
            rw [HRA.out]
            have hS7 : w7.cell? ⟨w2.heap.size, 0, none⟩ = some (.int .i64 112) ∧ w7.cell? ⟨w2.heap.size, 1, none⟩ = some (.int .i64 (pn : Int)) ∧ w7.cell? ⟨w2.heap.size, 2, none⟩ = some (.int .u64 0) ∧ w7.cell? ⟨w2.heap.size, 3, none⟩ = some (.int .i64 sn) := ⟨(hb7.cell (p := ⟨w2.heap.size, 0, none⟩) h26).trans g0, (hb7.cell (p := ⟨w2.heap.size, 1, none⟩) h26).trans g1, (hb7.cell (p := ⟨w2.heap.size, 2, none⟩) h26).trans g2, (hb7.cell (p := ⟨w2.heap.size, 3, none⟩) h26).trans g3⟩
            go_simp
            refine hK _ _ hS7 (fun hS => ?_)
            clear hK K
            try simp only [List.getElem_toArray, List.getElem_cons_zero, List.getElem_cons_succ, Act.put, List.setIfInBounds_toArray, List.set_cons_zero, List.set_cons_succ]
            refine wpAnyH_take (i := 2) (v := ?_) rfl (by kernel_rfl) (by kernel_rfl) (by kernel_rfl) (fun _ _ _ h => h) (Or.inl ⟨by rfl, ?_⟩) hS ?_
            rotate_left 1
            · intro w' hSw
              go_simp <;> with_reducible rfl
            try simp only [List.getElem_toArray, List.getElem_cons_zero, List.getElem_cons_succ, Act.put, List.setIfInBounds_toArray, List.set_cons_zero, List.set_cons_succ]
            refine wpAnyH_take (i := 3) (v := ?_) rfl (by kernel_rfl) (by kernel_rfl) (by kernel_rfl) (fun _ _ _ h => h) (Or.inl ⟨by rfl, ?_⟩) hS ?_
            rotate_left 1
            · intro w' hSw
              go_simp <;> with_reducible rfl
            try simp only [List.getElem_toArray, List.getElem_cons_zero, List.getElem_cons_succ, Act.put, List.setIfInBounds_toArray, List.set_cons_zero, List.set_cons_succ]
            refine wpAnyH_take (i := 4) (v := ?_) rfl (by kernel_rfl) (by kernel_rfl) (by kernel_rfl) (fun _ _ _ h => h) (Or.inl ⟨by go_simp, ?_⟩) hS ?_
            rotate_left 1
            · intro w' hSw
              go_simp <;> with_reducible rfl
            try simp only [List.getElem_toArray, List.getElem_cons_zero, List.getElem_cons_succ, Act.put, List.setIfInBounds_toArray, List.set_cons_zero, List.set_cons_succ]
            refine wpAnyH_take (i := 5) (v := ?_) rfl (by kernel_rfl) (by kernel_rfl) (by kernel_rfl) (fun _ _ _ h => h) (Or.inl ⟨by go_simp, ?_⟩) hS ?_
            rotate_left 1
            · intro w' hSw
              go_simp <;> with_reducible rfl
            try simp only [List.getElem_toArray, List.getElem_cons_zero, List.getElem_cons_succ, Act.put, List.setIfInBounds_toArray, List.set_cons_zero, List.set_cons_succ]
            refine wpAnyH_take (i := 7) (v := ?_) rfl (by kernel_rfl) (by kernel_rfl) (by kernel_rfl) (fun _ _ _ h => h) (Or.inl ⟨by go_simp, ?_⟩) hS ?_
            rotate_left 1
            · intro w' hSw
              go_simp <;> with_reducible rfl
            try simp only [List.getElem_toArray, List.getElem_cons_zero, List.getElem_cons_succ, Act.put, List.setIfInBounds_toArray, List.set_cons_zero, List.set_cons_succ]
            refine wpAnyH_ready (rs := [6]) (by kernel_rfl) (by simp) (AllReadyH.cons rfl (fun K hK => ?_) AllReadyH.nil)
            go_simp
            refine (doR_any (some ⟨g9, 0, none⟩) c9 al P d pk w7 (Inss.below (show Inss w6.drew _ _ _ _ from HIN.out) hb7) ((Rd.below (show Rd w6.drew w6.drew.heap.size P d (u8s pk) from HP6.out) hb7).mono hb7.size) HPB.out (by omega) HAO.out).mono ?_
            rintro _ w8 ⟨rfl, hb8⟩
            rw [hEX.out]
            have hS8 : w8.cell? ⟨w2.heap.size, 0, none⟩ = some (.int .i64 112) ∧ w8.cell? ⟨w2.heap.size, 1, none⟩ = some (.int .i64 (pn : Int)) ∧ w8.cell? ⟨w2.heap.size, 2, none⟩ = some (.int .u64 0) ∧ w8.cell? ⟨w2.heap.size, 3, none⟩ = some (.int .i64 sn) := ⟨(hb8.cell (p := ⟨w2.heap.size, 0, none⟩) (Nat.lt_of_lt_of_le h26 hb7.size)).trans hS7.1, (hb8.cell (p := ⟨w2.heap.size, 1, none⟩) (Nat.lt_of_lt_of_le h26 hb7.size)).trans hS7.2.1, (hb8.cell (p := ⟨w2.heap.size, 2, none⟩) (Nat.lt_of_lt_of_le h26 hb7.size)).trans hS7.2.2.1, (hb8.cell (p := ⟨w2.heap.size, 3, none⟩) (Nat.lt_of_lt_of_le h26 hb7.size)).trans hS7.2.2.2⟩
            simp only [outA, outV]
            go_simp
            refine hK _ _ hS8 (fun hS => ?_)
            clear hK K
            try simp only [List.getElem_toArray, List.getElem_cons_zero, List.getElem_cons_succ, Act.put, List.setIfInBounds_toArray, List.set_cons_zero, List.set_cons_succ]
            refine wpAnyH_take (i := 8) (v := ?_) rfl (by kernel_rfl) (by kernel_rfl) (by kernel_rfl) (fun _ _ _ h => h) (Or.inl ⟨by go_simp, ?_⟩) hS ?_
            rotate_left 1
            · intro w' hSw
              go_simp <;> with_reducible rfl
            try simp only [List.getElem_toArray, List.getElem_cons_zero, List.getElem_cons_succ, Act.put, List.setIfInBounds_toArray, List.set_cons_zero, List.set_cons_succ]
            refine wpAnyH_take (i := 9) (v := ?_) rfl (by kernel_rfl) (by kernel_rfl) (by kernel_rfl) (fun _ _ _ h => h) (Or.inl ⟨by rfl, ?_⟩) hS ?_
            rotate_left 1
            · intro w' hSw
              go_simp <;> with_reducible rfl
            try simp only [List.getElem_toArray, List.getElem_cons_zero, List.getElem_cons_succ, Act.put, List.setIfInBounds_toArray, List.set_cons_zero, List.set_cons_succ]
            refine wpAnyH_take (i := 10) (v := ?_) rfl (by kernel_rfl) (by kernel_rfl) (by kernel_rfl) (fun _ _ _ h => h) (Or.inl ⟨by rfl, ?_⟩) hS ?_
            rotate_left 1
            · intro w' hSw
              go_simp <;> with_reducible rfl
            try simp only [List.getElem_toArray, List.getElem_cons_zero, List.getElem_cons_succ, Act.put, List.setIfInBounds_toArray, List.set_cons_zero, List.set_cons_succ]
            refine wpAnyH_done (by kernel_rfl) ?_ _
            have HB7 := Lib.hid hb7
            have HB8 := Lib.hid hb8
            clear hb7 hb8 hS hS7 hS8
            go_wp2
            go_ret
            exact ⟨rfl, HW3.out.trans ((HB6.out.trans ((((Below.refl _ _).drew.trans HB7.out).trans (HB8.out.mono HB7.out.size)).mono HB6.out.size)).mono (by have := HW3.out.size; omega))⟩
    · have cl := HCL.out pn f 6 hf.out hop
      clear hop
      go_wp2_with (at_builtin; refine wpList_append_own _ rfl _ _ 22 rfl w3.heap.size 40 i0 _ 9 56 Try.underlying22 hi hz0 hz1 hz2 rfl (by decide) (.slice (some ⟨w3.heap.size, 0, none⟩) 0 0) 0 [] rfl HM0.out a xs.length c (flatV xs) rfl (by rw [flatV_len]) HC0.out (flatV_one _) (by unfold maxLen; omega) (by omega) (by simp) ?_; intro v1 w4 hown4 hgrow4 hv4)
      simp only [Nat.zero_add, List.nil_append] at hown4
      have hB4 : Below w3.heap.size w3 w4 := ((Below.refl _ _).alloc (Nat.le_refl _) _).grown hgrow4 (by simp) (fun k e => by injection e with e; subst e; exact Nat.le_refl _)
      clear hgrow4 hv4
      go_loopw [9, 10] (fun v i wr => ∃ k : Nat, k ≤ ms.length ∧ i = .int .i64 k ∧ wr.ownsRow w3.heap.size 40 9 v (xs.length + k) (flatV (xs ++ (ms.take k).map tameI)) ∧ Below w3.heap.size w3 wr) (fun _ i _ => ms.length - (intOf i).toNat)
      case atStart => exact ⟨0, Nat.zero_le _, rfl, by simpa using hown4, hB4⟩
      case round =>
        clear hown4 hB4
        obtain ⟨k, hk, rfl, hown, hbr⟩ := hrel
        have HOWN := Lib.hid hown
        have HBR := Lib.hid hbr
        have hbs := hbr.size
        by_cases hlt : k < ms.length
        · have dk : decide ((k : Int) < (ms.length : Int)) = true := decide_eq_true (by omega)
          obtain ⟨b, g, rfl, hb, hg, hc⟩ := (HM3.out.below hbr).at_ hlt
          obtain ⟨e0, e1, e2, e3, e4, e5, e6, e7, e8⟩ := flat9 hc
          have hbl : (b.add (k * 9)).block < wr.heap.size := by rw [add_blk]; exact hb
          clear hc hown hbr
          have hext : Hid (flatV (xs ++ (ms.take k).map tameI) ++ flatV [tameI g] = flatV (xs ++ (ms.take (k + 1)).map tameI)) := Lib.hid (by
            rw [List.take_add_one, hg.out, List.map_append, ← List.append_assoc]; exact (flatV_app _ _).symm)
          have hown2 : ∀ o o', ((wr.alloc o).alloc o').ownsRow w3.heap.size 40 9 u9 (xs.length + k) (flatV (xs ++ (ms.take k).map tameI)) := fun o o' => (HOWN.out.alloc o).alloc o'
          have hgok := HMO.out g (List.mem_of_getElem? hg.out)
          by_cases h7 : g.op = 7
          · have q7 : (g.op == 7) = true := by rw [h7]; rfl
            have ht : tameI g = endI 0 := by unfold tameI; rw [if_pos (.inl h7)]
            have HT := Lib.hid ht
            clear ht
            go_wp2_with (at_builtin; refine wpList_append_own _ rfl (.tmp 144) (.tmp 146) 22 rfl w3.heap.size 40 i0 _ 9 56 Try.underlying22 hi hz0 hz1 hz2 rfl (by decide) u9 (xs.length + k) _ rfl (hown2 _ _) ⟨wr.heap.size + 1, 0, none⟩ 1 1 (insV (endI 0)) rfl rfl (news_new2 wr _ (insV (endI 0)) 40) (insV_one _) (by unfold maxLen; omega) (by omega) (by simp; omega) ?_; intro v2 w5 hown5 hgrow5 hv5)
            have HO5 : Hid (w5.ownsRow w3.heap.size 40 9 v2 (xs.length + (k + 1)) (flatV (xs ++ (ms.take (k + 1)).map tameI))) := Lib.hid (by rw [← hext.out, HT.out, flatV_single]; exact hown5)
            have HB5 : Hid (Below w3.heap.size w3 w5) := Lib.hid (((HBR.out.alloc hbs _).alloc (by simp; omega) _).grown hgrow5 (by simp; omega) (fun k e => (HOWN.out.lt k e).1))
            clear hown5 hgrow5 hv5 hown2
            go_wp2
            go_roundw
            case rel => exact ⟨k + 1, by omega, by go_num, HO5.out, HB5.out⟩
            case measure => simp [intOf]; omega
          have q7 : (g.op == 7) = false := by simpa using h7
          by_cases h8 : g.op = 8
          · have q8 : (g.op == 8) = true := by rw [h8]; rfl
            have ht : tameI g = endI 0 := by unfold tameI; rw [if_pos (.inr h8)]
            have HT := Lib.hid ht
            clear ht
            go_wp2_with (at_builtin; refine wpList_append_own _ rfl (.tmp 144) (.tmp 146) 22 rfl w3.heap.size 40 i0 _ 9 56 Try.underlying22 hi hz0 hz1 hz2 rfl (by decide) u9 (xs.length + k) _ rfl (hown2 _ _) ⟨wr.heap.size + 1, 0, none⟩ 1 1 (insV (endI 0)) rfl rfl (news_new2 wr _ (insV (endI 0)) 40) (insV_one _) (by unfold maxLen; omega) (by omega) (by simp; omega) ?_; intro v2 w5 hown5 hgrow5 hv5)
            have HO5 : Hid (w5.ownsRow w3.heap.size 40 9 v2 (xs.length + (k + 1)) (flatV (xs ++ (ms.take (k + 1)).map tameI))) := Lib.hid (by rw [← hext.out, HT.out, flatV_single]; exact hown5)
            have HB5 : Hid (Below w3.heap.size w3 w5) := Lib.hid (((HBR.out.alloc hbs _).alloc (by simp; omega) _).grown hgrow5 (by simp; omega) (fun k e => (HOWN.out.lt k e).1))
            clear hown5 hgrow5 hv5 hown2
            go_wp2
            go_roundw
            case rel => exact ⟨k + 1, by omega, by go_num, HO5.out, HB5.out⟩
            case measure => simp [intOf]; omega
          · have q8 : (g.op == 8) = false := by simpa using h8
            have ht : tameI g = { g with «to» := 0 } := by unfold tameI; rw [if_neg (fun h => h.elim h7 h8)]
            have HT := Lib.hid ht
            clear ht
            go_wp2_with (at_builtin; refine wpList_append_own _ rfl (.tmp 144) (.tmp 146) 22 rfl w3.heap.size 40 i0 _ 9 56 Try.underlying22 hi hz0 hz1 hz2 rfl (by decide) u9 (xs.length + k) _ rfl (hown2 _ _) ⟨wr.heap.size + 1, 0, none⟩ 1 1 (insV ({ g with «to» := 0 })) rfl rfl (news_new2 wr _ (insV ({ g with «to» := 0 })) 40) (insV_one _) (by unfold maxLen; omega) (by omega) (by simp; omega) ?_; intro v2 w5 hown5 hgrow5 hv5)
            have HO5 : Hid (w5.ownsRow w3.heap.size 40 9 v2 (xs.length + (k + 1)) (flatV (xs ++ (ms.take (k + 1)).map tameI))) := Lib.hid (by rw [← hext.out, HT.out, flatV_single]; exact hown5)
            have HB5 : Hid (Below w3.heap.size w3 w5) := Lib.hid (((HBR.out.alloc hbs _).alloc (by simp; omega) _).grown hgrow5 (by simp; omega) (fun k e => (HOWN.out.lt k e).1))
            clear hown5 hgrow5 hv5 hown2
            go_wp2
            go_roundw
            case rel => exact ⟨k + 1, by omega, by go_num, HO5.out, HB5.out⟩
            case measure => simp [intOf]; omega
        · have dk : decide ((k : Int) < (ms.length : Int)) = false := decide_eq_false (by omega)
          obtain rfl : k = ms.length := by omega
          have hown2 : ∀ o, (wr.alloc o).ownsRow w3.heap.size 40 9 u9 (xs.length + ms.length) (flatV (xs ++ (ms.take ms.length).map tameI)) := fun o => HOWN.out.alloc o
          clear hown hbr
          go_wp2_with (at_builtin; refine wpList_append_own _ rfl (.tmp 148) (.tmp 150) 22 rfl w3.heap.size 40 i0 _ 9 56 Try.underlying22 hi hz0 hz1 hz2 rfl (by decide) u9 (xs.length + ms.length) _ rfl (hown2 _) ⟨wr.heap.size, 0, none⟩ 1 1 (insV (endI 7)) rfl rfl (news_new wr (insV (endI 7)) 40) (insV_one _) (by unfold maxLen; omega) (by omega) (by simp; omega) ?_; intro v2 w6 hown6 hgrow6 hv6)
          have hB6 : Below w3.heap.size w3 w6 := (HBR.out.alloc hbs _).grown hgrow6 (by simp; omega) (fun k e => (HOWN.out.lt k e).1)
          rw [List.take_length] at hown6
          have hown7 : w6.ownsRow w3.heap.size 40 9 v2 (xs.length + ms.length + 1) (flatV (allI xs ms)) := by
            have e1 : flatV (allI xs ms) = flatV (xs ++ ms.map tameI) ++ insV (endI 7) := by unfold allI; rw [← List.append_assoc, flatV_app, flatV_single]
            rw [e1]; exact hown6
          obtain ⟨g9, c9, rfl, hin, _⟩ := own_inss hown7 (by simp [allI]; omega) (by simp [allI]; omega)
          have hal : (allI xs ms).length ≤ 10000 := by simp [allI]; omega
          have HIN := Lib.hid hin
          have HB6 := Lib.hid hB6
          have HP6 := Lib.hid ((HP3.out.below hB6).mono hB6.size)
          have g0 := (hB6.cell (p := ⟨w2.heap.size, 0, none⟩) (by show w2.heap.size < _; omega)).trans cR0
          have g1 := (hB6.cell (p := ⟨w2.heap.size, 1, none⟩) (by show w2.heap.size < _; omega)).trans cR1
          have g2 := (hB6.cell (p := ⟨w2.heap.size, 2, none⟩) (by show w2.heap.size < _; omega)).trans cR2
          have g3 := (hB6.cell (p := ⟨w2.heap.size, 3, none⟩) (by show w2.heap.size < _; omega)).trans cR3
          have h26 : w2.heap.size < w6.heap.size := by have := hB6.size; omega
          clear hown6 hgrow6 hv6 hown7 hown2 hin hB6 cR0 cR1 cR2 cR3
          have hao := all_ok HIO.out HMO.out
          have HAO := Lib.hid hao
          clear hao
          obtain ⟨al, hal2⟩ : ∃ al, Hid (al = allI xs ms) := ⟨_, Lib.hid rfl⟩
          rw [← hal2.out] at HIN HAO hal ⊢
          cases hra : rightP al with
          | false =>
            have HRA := Lib.hid hra
            clear hra
            go_wp2
            refine wp_region_held_drew (S := fun w' => w'.cell? ⟨w2.heap.size, 0, none⟩ = some (.int .i64 112) ∧ w'.cell? ⟨w2.heap.size, 1, none⟩ = some (.int .i64 (pn : Int)) ∧ w'.cell? ⟨w2.heap.size, 2, none⟩ = some (.int .u64 0) ∧ w'.cell? ⟨w2.heap.size, 3, none⟩ = some (.int .i64 sn)) (by kernel_rfl) ⟨g0, g1, g2, g3⟩ (fun hS => ?_)
            refine wpAnyH_take (i := 0) (v := ?_) rfl (by kernel_rfl) (by kernel_rfl) (by kernel_rfl) (fun _ _ _ h => h) (Or.inl ⟨by rfl, ?_⟩) hS ?_
            rotate_left 1
            · intro w' hSw
              go_simp <;> with_reducible rfl
            try simp only [List.getElem_toArray, List.getElem_cons_zero, List.getElem_cons_succ, Act.put, List.setIfInBounds_toArray, List.set_cons_zero, List.set_cons_succ]
            refine wpAnyH_ready (rs := [1]) (by kernel_rfl) (by simp) (AllReadyH.cons rfl (fun K hK => ?_) AllReadyH.nil)
            go_simp
            refine (right_any (some ⟨g9, 0, none⟩) c9 al w6.drew HIN.out).mono ?_
            rintro _ w7 ⟨rfl, hb7⟩
            rw [HRA.out]
            have hS7 : w7.cell? ⟨w2.heap.size, 0, none⟩ = some (.int .i64 112) ∧ w7.cell? ⟨w2.heap.size, 1, none⟩ = some (.int .i64 (pn : Int)) ∧ w7.cell? ⟨w2.heap.size, 2, none⟩ = some (.int .u64 0) ∧ w7.cell? ⟨w2.heap.size, 3, none⟩ = some (.int .i64 sn) := ⟨(hb7.cell (p := ⟨w2.heap.size, 0, none⟩) h26).trans g0, (hb7.cell (p := ⟨w2.heap.size, 1, none⟩) h26).trans g1, (hb7.cell (p := ⟨w2.heap.size, 2, none⟩) h26).trans g2, (hb7.cell (p := ⟨w2.heap.size, 3, none⟩) h26).trans g3⟩
            go_simp
            refine hK _ _ hS7 (fun hS => ?_)
            clear hK K
            try simp only [List.getElem_toArray, List.getElem_cons_zero, List.getElem_cons_succ, Act.put, List.setIfInBounds_toArray, List.set_cons_zero, List.set_cons_succ]
            refine wpAnyH_take (i := 2) (v := ?_) rfl (by kernel_rfl) (by kernel_rfl) (by kernel_rfl) (fun _ _ _ h => h) (Or.inl ⟨by rfl, ?_⟩) hS ?_
            rotate_left 1
            · intro w' hSw
              go_simp <;> with_reducible rfl
            try simp only [List.getElem_toArray, List.getElem_cons_zero, List.getElem_cons_succ, Act.put, List.setIfInBounds_toArray, List.set_cons_zero, List.set_cons_succ]
            refine wpAnyH_take (i := 3) (v := ?_) rfl (by kernel_rfl) (by kernel_rfl) (by kernel_rfl) (fun _ _ _ h => h) (Or.inl ⟨by rfl, ?_⟩) hS ?_
            rotate_left 1
            · intro w' hSw
              go_simp <;> with_reducible rfl
            try simp only [List.getElem_toArray, List.getElem_cons_zero, List.getElem_cons_succ, Act.put, List.setIfInBounds_toArray, List.set_cons_zero, List.set_cons_succ]
            refine wpAnyH_take (i := 4) (v := undef) rfl (by kernel_rfl) (by kernel_rfl) (by kernel_rfl) (fun _ _ _ h => h) (Or.inr ⟨by go_simp, rfl⟩) hS ?_
            try simp only [List.getElem_toArray, List.getElem_cons_zero, List.getElem_cons_succ, Act.put, List.setIfInBounds_toArray, List.set_cons_zero, List.set_cons_succ]
            refine wpAnyH_take (i := 5) (v := undef) rfl (by kernel_rfl) (by kernel_rfl) (by kernel_rfl) (fun _ _ _ h => h) (Or.inr ⟨by go_simp, rfl⟩) hS ?_
            try simp only [List.getElem_toArray, List.getElem_cons_zero, List.getElem_cons_succ, Act.put, List.setIfInBounds_toArray, List.set_cons_zero, List.set_cons_succ]
            refine wpAnyH_take (i := 6) (v := undef) rfl (by kernel_rfl) (by kernel_rfl) (by kernel_rfl) (fun _ _ _ h => h) (Or.inr ⟨by go_simp, rfl⟩) hS ?_
            try simp only [List.getElem_toArray, List.getElem_cons_zero, List.getElem_cons_succ, Act.put, List.setIfInBounds_toArray, List.set_cons_zero, List.set_cons_succ]
            refine wpAnyH_take (i := 7) (v := undef) rfl (by kernel_rfl) (by kernel_rfl) (by kernel_rfl) (fun _ _ _ h => h) (Or.inr ⟨by go_simp, rfl⟩) hS ?_
            try simp only [List.getElem_toArray, List.getElem_cons_zero, List.getElem_cons_succ, Act.put, List.setIfInBounds_toArray, List.set_cons_zero, List.set_cons_succ]
            refine wpAnyH_take (i := 8) (v := undef) rfl (by kernel_rfl) (by kernel_rfl) (by kernel_rfl) (fun _ _ _ h => h) (Or.inr ⟨by go_simp, rfl⟩) hS ?_
            try simp only [List.getElem_toArray, List.getElem_cons_zero, List.getElem_cons_succ, Act.put, List.setIfInBounds_toArray, List.set_cons_zero, List.set_cons_succ]
            refine wpAnyH_take (i := 9) (v := ?_) rfl (by kernel_rfl) (by kernel_rfl) (by kernel_rfl) (fun _ _ _ h => h) (Or.inl ⟨by rfl, ?_⟩) hS ?_
            rotate_left 1
            · intro w' hSw
              go_simp <;> with_reducible rfl
            try simp only [List.getElem_toArray, List.getElem_cons_zero, List.getElem_cons_succ, Act.put, List.setIfInBounds_toArray, List.set_cons_zero, List.set_cons_succ]
            refine wpAnyH_take (i := 10) (v := ?_) rfl (by kernel_rfl) (by kernel_rfl) (by kernel_rfl) (fun _ _ _ h => h) (Or.inl ⟨by rfl, ?_⟩) hS ?_
            rotate_left 1
            · intro w' hSw
              go_simp <;> with_reducible rfl
            try simp only [List.getElem_toArray, List.getElem_cons_zero, List.getElem_cons_succ, Act.put, List.setIfInBounds_toArray, List.set_cons_zero, List.set_cons_succ]
            refine wpAnyH_done (by kernel_rfl) ?_ _
            have HB7 := Lib.hid hb7
            clear hb7 hS hS7
            go_wp2
            go_ret
            exact ⟨rfl, HW3.out.trans ((HB6.out.trans (((Below.refl _ _).drew.trans HB7.out).mono HB6.out.size)).mono (by have := HW3.out.size; omega))⟩
          | true =>
            have HRA := Lib.hid hra
            clear hra
            have hEX : Hid (doP pk al = ⟨112, (pn : Int), 0, sn⟩) := Lib.hid (by rw [hal2.out]; unfold allI; rw [do_ext pk xs _ HRI.out (by have := HRA.out; rw [hal2.out] at this; exact this) HIO.out HPB.out (by omega)]; exact HO.out.symm)
            have q := outE_same ⟨112, (pn : Int), 0, sn⟩
            go_wp2
            refine wp_region_held_drew (S := fun w' => w'.cell? ⟨w2.heap.size, 0, none⟩ = some (.int .i64 112) ∧ w'.cell? ⟨w2.heap.size, 1, none⟩ = some (.int .i64 (pn : Int)) ∧ w'.cell? ⟨w2.heap.size, 2, none⟩ = some (.int .u64 0) ∧ w'.cell? ⟨w2.heap.size, 3, none⟩ = some (.int .i64 sn)) (by kernel_rfl) ⟨g0, g1, g2, g3⟩ (fun hS => ?_)
            refine wpAnyH_take (i := 0) (v := ?_) rfl (by kernel_rfl) (by kernel_rfl) (by kernel_rfl) (fun _ _ _ h => h) (Or.inl ⟨by rfl, ?_⟩) hS ?_
            rotate_left 1
            · intro w' hSw
              go_simp <;> with_reducible rfl
            try simp only [List.getElem_toArray, List.getElem_cons_zero, List.getElem_cons_succ, Act.put, List.setIfInBounds_toArray, List.set_cons_zero, List.set_cons_succ]
            refine wpAnyH_ready (rs := [1]) (by kernel_rfl) (by simp) (AllReadyH.cons rfl (fun K hK => ?_) AllReadyH.nil)
            go_simp
            refine (right_any (some ⟨g9, 0, none⟩) c9 al w6.drew HIN.out).mono ?_
            rintro _ w7 ⟨rfl, hb7⟩
            rw [HRA.out]
            have hS7 : w7.cell? ⟨w2.heap.size, 0, none⟩ = some (.int .i64 112) ∧ w7.cell? ⟨w2.heap.size, 1, none⟩ = some (.int .i64 (pn : Int)) ∧ w7.cell? ⟨w2.heap.size, 2, none⟩ = some (.int .u64 0) ∧ w7.cell? ⟨w2.heap.size, 3, none⟩ = some (.int .i64 sn) := ⟨(hb7.cell (p := ⟨w2.heap.size, 0, none⟩) h26).trans g0, (hb7.cell (p := ⟨w2.heap.size, 1, none⟩) h26).trans g1, (hb7.cell (p := ⟨w2.heap.size, 2, none⟩) h26).trans g2, (hb7.cell (p := ⟨w2.heap.size, 3, none⟩) h26).trans g3⟩
            go_simp
            refine hK _ _ hS7 (fun hS => ?_)
            clear hK K
            try simp only [List.getElem_toArray, List.getElem_cons_zero, List.getElem_cons_succ, Act.put, List.setIfInBounds_toArray, List.set_cons_zero, List.set_cons_succ]
            refine wpAnyH_take (i := 2) (v := ?_) rfl (by kernel_rfl) (by kernel_rfl) (by kernel_rfl) (fun _ _ _ h => h) (Or.inl ⟨by rfl, ?_⟩) hS ?_
            rotate_left 1
            · intro w' hSw
              go_simp <;> with_reducible rfl
            try simp only [List.getElem_toArray, List.getElem_cons_zero, List.getElem_cons_succ, Act.put, List.setIfInBounds_toArray, List.set_cons_zero, List.set_cons_succ]
            refine wpAnyH_take (i := 3) (v := ?_) rfl (by kernel_rfl) (by kernel_rfl) (by kernel_rfl) (fun _ _ _ h => h) (Or.inl ⟨by rfl, ?_⟩) hS ?_
            rotate_left 1
            · intro w' hSw
              go_simp <;> with_reducible rfl
            try simp only [List.getElem_toArray, List.getElem_cons_zero, List.getElem_cons_succ, Act.put, List.setIfInBounds_toArray, List.set_cons_zero, List.set_cons_succ]
            refine wpAnyH_take (i := 4) (v := ?_) rfl (by kernel_rfl) (by kernel_rfl) (by kernel_rfl) (fun _ _ _ h => h) (Or.inl ⟨by go_simp, ?_⟩) hS ?_
            rotate_left 1
            · intro w' hSw
              go_simp <;> with_reducible rfl
            try simp only [List.getElem_toArray, List.getElem_cons_zero, List.getElem_cons_succ, Act.put, List.setIfInBounds_toArray, List.set_cons_zero, List.set_cons_succ]
            refine wpAnyH_take (i := 5) (v := ?_) rfl (by kernel_rfl) (by kernel_rfl) (by kernel_rfl) (fun _ _ _ h => h) (Or.inl ⟨by go_simp, ?_⟩) hS ?_
            rotate_left 1
            · intro w' hSw
              go_simp <;> with_reducible rfl
            try simp only [List.getElem_toArray, List.getElem_cons_zero, List.getElem_cons_succ, Act.put, List.setIfInBounds_toArray, List.set_cons_zero, List.set_cons_succ]
            refine wpAnyH_take (i := 7) (v := ?_) rfl (by kernel_rfl) (by kernel_rfl) (by kernel_rfl) (fun _ _ _ h => h) (Or.inl ⟨by go_simp, ?_⟩) hS ?_
            rotate_left 1
            · intro w' hSw
              go_simp <;> with_reducible rfl
            try simp only [List.getElem_toArray, List.getElem_cons_zero, List.getElem_cons_succ, Act.put, List.setIfInBounds_toArray, List.set_cons_zero, List.set_cons_succ]
            refine wpAnyH_ready (rs := [6]) (by kernel_rfl) (by simp) (AllReadyH.cons rfl (fun K hK => ?_) AllReadyH.nil)
            go_simp
            refine (doR_any (some ⟨g9, 0, none⟩) c9 al P d pk w7 (Inss.below (show Inss w6.drew _ _ _ _ from HIN.out) hb7) ((Rd.below (show Rd w6.drew w6.drew.heap.size P d (u8s pk) from HP6.out) hb7).mono hb7.size) HPB.out (by omega) HAO.out).mono ?_
            rintro _ w8 ⟨rfl, hb8⟩
            rw [hEX.out]
            have hS8 : w8.cell? ⟨w2.heap.size, 0, none⟩ = some (.int .i64 112) ∧ w8.cell? ⟨w2.heap.size, 1, none⟩ = some (.int .i64 (pn : Int)) ∧ w8.cell? ⟨w2.heap.size, 2, none⟩ = some (.int .u64 0) ∧ w8.cell? ⟨w2.heap.size, 3, none⟩ = some (.int .i64 sn) := ⟨(hb8.cell (p := ⟨w2.heap.size, 0, none⟩) (Nat.lt_of_lt_of_le h26 hb7.size)).trans hS7.1, (hb8.cell (p := ⟨w2.heap.size, 1, none⟩) (Nat.lt_of_lt_of_le h26 hb7.size)).trans hS7.2.1, (hb8.cell (p := ⟨w2.heap.size, 2, none⟩) (Nat.lt_of_lt_of_le h26 hb7.size)).trans hS7.2.2.1, (hb8.cell (p := ⟨w2.heap.size, 3, none⟩) (Nat.lt_of_lt_of_le h26 hb7.size)).trans hS7.2.2.2⟩
            simp only [outA, outV]
            go_simp
            refine hK _ _ hS8 (fun hS => ?_)
            clear hK K
            try simp only [List.getElem_toArray, List.getElem_cons_zero, List.getElem_cons_succ, Act.put, List.setIfInBounds_toArray, List.set_cons_zero, List.set_cons_succ]
            refine wpAnyH_take (i := 8) (v := ?_) rfl (by kernel_rfl) (by kernel_rfl) (by kernel_rfl) (fun _ _ _ h => h) (Or.inl ⟨by go_simp, ?_⟩) hS ?_
            rotate_left 1
            · intro w' hSw
              go_simp <;> with_reducible rfl
            try simp only [List.getElem_toArray, List.getElem_cons_zero, List.getElem_cons_succ, Act.put, List.setIfInBounds_toArray, List.set_cons_zero, List.set_cons_succ]
            refine wpAnyH_take (i := 9) (v := ?_) rfl (by kernel_rfl) (by kernel_rfl) (by kernel_rfl) (fun _ _ _ h => h) (Or.inl ⟨by rfl, ?_⟩) hS ?_
            rotate_left 1
            · intro w' hSw
              go_simp <;> with_reducible rfl
            try simp only [List.getElem_toArray, List.getElem_cons_zero, List.getElem_cons_succ, Act.put, List.setIfInBounds_toArray, List.set_cons_zero, List.set_cons_succ]
            refine wpAnyH_take (i := 10) (v := ?_) rfl (by kernel_rfl) (by kernel_rfl) (by kernel_rfl) (fun _ _ _ h => h) (Or.inl ⟨by rfl, ?_⟩) hS ?_
            rotate_left 1
            · intro w' hSw
              go_simp <;> with_reducible rfl
            try simp only [List.getElem_toArray, List.getElem_cons_zero, List.getElem_cons_succ, Act.put, List.setIfInBounds_toArray, List.set_cons_zero, List.set_cons_succ]
            refine wpAnyH_done (by kernel_rfl) ?_ _
            have HB7 := Lib.hid hb7
            have HB8 := Lib.hid hb8
            clear hb7 hb8 hS hS7 hS8
            go_wp2
            go_ret
            exact ⟨rfl, HW3.out.trans ((HB6.out.trans ((((Below.refl _ _).drew.trans HB7.out).trans (HB8.out.mono HB7.out.size)).mono HB6.out.size)).mono (by have := HW3.out.size; omega))⟩
end
end Go.Proofs.Ytbfegghkipoppaa
