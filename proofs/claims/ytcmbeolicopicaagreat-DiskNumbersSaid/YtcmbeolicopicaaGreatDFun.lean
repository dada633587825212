/- disk: known, used, cut. -/
import Derived.Deep.LoopGhost
import Derived.WalkSpells
import Derived.Test.YtcmbeolicopicaaGreatZ2
namespace Go.Proofs.YtcmbeolicopicaaGreat
open Go.RowKit Go.Maps Go.ChangeMaps
set_option linter.unusedVariables false
set_option linter.unusedSimpArgs false
set_option maxRecDepth 100000

theorem names_dis {w : World} {D : Nat} {st : DSt} (h : DskAt w D st) : st.fs.Pairwise fun a b => a.s ≠ b.s := by
  have := h.dis
  rw [Dis, List.pairwise_map] at this
  exact this
theorem DskAt.one {w : World} {D : Nat} {st : DSt} (h : DskAt w D st) {f f' : DF} (hf : f ∈ st.fs) (hf' : f' ∈ st.fs) (e : f.s = f'.s) : f = f' := by
  obtain ⟨i, hi, rfl⟩ := List.getElem_of_mem hf
  obtain ⟨j, hj, rfl⟩ := List.getElem_of_mem hf'
  rcases Nat.lt_trichotomy i j with q | q | q
  · exact absurd e (List.pairwise_iff_getElem.1 (names_dis h) i j hi hj q)
  · subst q; rfl
  · exact absurd e.symm (List.pairwise_iff_getElem.1 (names_dis h) j i hj hi q)
/-- The files of the entries that have come. -/
structure Cm (st : DSt) (ss : List MapEntry) (fl : List DF) : Prop where
  eq : ss.map (fun e => (e.key, e.val)) = fl.map fun f => (nmV f.s, f.val)
  sub : ∀ f ∈ fl, f ∈ st.fs
theorem Cm.nil (st : DSt) : Cm st [] [] := ⟨rfl, fun _ h => (by cases h)⟩
theorem Cm.more {st : DSt} {es ss : List MapEntry} {fl : List DF} (h : Cm st ss fl) (hes : es.map (fun e => (e.key, e.val)) = st.fs.map fun f => (nmV f.s, f.val)) {e : MapEntry} (he : e ∈ es) : ∃ f, f ∈ st.fs ∧ e.key = nmV f.s ∧ e.val = f.val ∧ Cm st (ss ++ [e]) (fl ++ [f]) := by
  obtain ⟨f, hf, e1, e2⟩ := ent_of hes he
  refine ⟨f, hf, e1, e2, by rw [List.map_append, List.map_append, h.eq]; simp [e1, e2], fun x hx => ?_⟩
  rcases List.mem_append.1 hx with hx | hx
  · exact h.sub x hx
  · simp at hx; rw [hx]; exact hf
theorem Cm.all {w : World} {D : Nat} {st : DSt} {es ss : List MapEntry} {fl : List DF} {ck : Nat} (hD : DskAt w D st) (h : Cm st ss fl) (hes : es.map (fun e => (e.key, e.val)) = st.fs.map fun f => (nmV f.s, f.val)) (ho : EsOk Tryz.prog 9 es ck) (hp : ss.Perm es) : fl.Perm st.fs := by
  have hp2 : (fl.map fun f => (nmV f.s, f.val)).Perm (st.fs.map fun f => (nmV f.s, f.val)) := by
    rw [← h.eq, ← hes]; exact hp.map _
  have nd2 : (st.fs.map fun f => (nmV f.s, f.val)).Nodup := by
    rw [List.Nodup, List.pairwise_map]
    exact (names_dis hD).imp fun hn e => hn (nmV_inj (congrArg Prod.fst e))
  have nd1 := hp2.nodup_iff.2 nd2
  refine (List.perm_ext_iff_of_nodup (nodup_of_map _ nd1) (nodup_of_map _ nd2)).2 fun f => ⟨h.sub f, fun hf => ?_⟩
  have : (nmV f.s, f.val) ∈ fl.map fun f => (nmV f.s, f.val) := hp2.mem_iff.2 (List.mem_map.2 ⟨f, hf, rfl⟩)
  obtain ⟨f', hf', e⟩ := List.mem_map.1 this
  rw [← hD.one (h.sub f' hf') hf (nmV_inj (congrArg Prod.fst e))]
  exact hf'
theorem run_neq_map (m : Nat) (w : World) : (binOp .neq 46 (.map (some m)) (.map none)).run Tryz.prog w = .ok (.bool true) w := run_neq_map_nil w _ _ _ _ Tryz.underlying46
theorem known_any (D m : Nat) (v : Value) (w : World) (h : Bk w D 50 [.map (some m), v]) : Calls Tryz.prog 43 #[.pointer (some ⟨D, 0, none⟩)] w fun e w' => e = .returned (.bool true) ∧ w = w' := by
  have c0 := h.cell 0
  simp only [List.getElem?_cons_zero] at c0
  have hm := run_neq_map m
  go_enter Tryz.func43, Tryz.ntmps43
  go_wp2_with fail
  go_ret
  exact ⟨rfl, rfl⟩
def usedD (fl : List DF) : Nat := (fl.map fun f => f.l.length).sum
theorem usedD_fe (fl : List DF) : usedD fl = usedF (fl.map DF.fe) := by simp [usedD, usedF, List.map_map, Function.comp_def, DF.fe]
theorem usedD_le {fl : List DF} (h : ∀ f ∈ fl, f.l.length ≤ 8388608) : usedD fl ≤ fl.length * 8388608 := by
  induction fl with
  | nil => simp [usedD]
  | cons f fl ih =>
    have h1 := h f (by simp)
    have h2 := ih (fun x hx => h x (by simp [hx]))
    simp [usedD] at h2 ⊢
    omega
theorem usedD_snoc (fl : List DF) (f : DF) : usedD (fl ++ [f]) = usedD fl + f.l.length := by simp [usedD]
set_option maxHeartbeats 1000000 in
theorem used_any (D : Nat) (st : DSt) (w : World) (h : DskAt w D st) (hn : st.fs.length ≤ 1000000) : Calls Tryz.prog 52 #[.pointer (some ⟨D, 0, none⟩)] w fun e w' => e = .returned (.int .i64 (usedD st.fs)) ∧ Below w.heap.size w w' := by
  obtain ⟨es, ck, h1, h2, h3⟩ := h.map
  have c0 := h.dsk.cell 0
  simp only [List.getElem?_cons_zero] at c0
  have hlen : es.length = st.fs.length := by have := congrArg List.length h3; simpa using this
  have HL := Lib.hid hlen
  have H3 := Lib.hid h3
  clear h3 hlen
  go_enter Tryz.func52, Tryz.ntmps52
  go_wp2_with (refine wpList_range_it (by rfl) (.tmp 9) 46 (by rfl) 9 59 mapTy st.m es ck (by rfl) h1 ?_; intro hI)
  have hb0 : Below w.heap.size w (w.alloc (.mapIter (some st.m) ck #[] ck)) := (Below.refl _ _).alloc (Nat.le_refl _) _
  generalize (w.alloc (.mapIter (some st.m) ck #[] ck)) = w1 at *
  obtain ⟨r, hr⟩ : ∃ r, r = w.heap.size := ⟨_, rfl⟩
  rw [← hr] at hI ⊢
  have HR := Lib.hid hr
  clear hr
  go_frame
  go_loopg [3] es.length (fun g v wr => ∃ (ss : List MapEntry) (fl : List DF), v = .int .i64 (usedD fl) ∧ It wr st.m r es ck ss ∧ Cm st ss fl ∧ es.length ≤ fl.length + g ∧ Below w.heap.size w wr)
  case atStart => exact ⟨[], [], rfl, hI, Cm.nil st, by simp, hb0⟩
  case round =>
    clear hI hb0
    obtain ⟨ss, fl, rfl, hI, hC, hg, hb⟩ := hrel
    go_wp2_with (refine wpList_next_it (by rfl) (.tmp 10) (by rfl) h2 hI (by rfl) ?done ?more)
    case done =>
      intro hp
      have hpf := hC.all h H3.out h2 hp
      go_wp2_with fail
      go_ret
      have hu : usedD fl = usedD st.fs := (hpf.map _).sum_nat
      rw [hu]
      exact ⟨rfl, hb⟩
    case more =>
      intro e w2 he hI2 ha hre
      obtain ⟨f, hf, e1, e2, hC2⟩ := hC.more H3.out he
      have hr1 : r < wr.heap.size := hI.lt.2
      have hrw : w.heap.size ≤ r := Nat.le_of_eq HR.out.symm
      have hb2 : Below w.heap.size w w2 := hb.trans ⟨ha.os, ha.tape, ha.output, ha.size, fun j hj => ha.block j (Nat.lt_of_lt_of_le hj hb.size) (by omega)⟩
      have hF := (h.below hb2).file f hf
      rw [e1, e2] at hre ⊢
      have q0 := hF.bk.cell 0
      simp only [List.getElem?_cons_zero] at q0
      have hlen := hI2.len
      have hll : fl.length = ss.length := by have := congrArg List.length hC.eq; simpa using this.symm
      have hul := usedD_le (fl := fl) (fun x hx => (h.file x (hC.sub x hx)).len)
      have hfl := hF.len
      have hsn := usedD_snoc fl f
      have hle : fl.length + 1 ≤ 1000000 := by have := HL.out; simp at hlen; omega
      have hg1 : 1 ≤ gk := by simp at hlen; omega
      have HS := Lib.hid hsn
      simp only [DF.dv] at q0
      simp only [DF.val] at hre ⊢
      clear hsn hll hlen
      go_wp2_with fail
      go_roundg (gk - 1)
      case measure => omega
      case rel => exact ⟨_, _, by rw [HS.out]; go_num, hI2, hC2, by simp; omega, hb2⟩
theorem rd_take {w : World} {K : Nat → Prop} {A : Option Addr} {c : Nat} {l : List Int} (h : Rd w K A c (u8s l)) (k : Nat) : Rd w K A c (u8s (l.take k)) := by
  refine ⟨h.1, fun hx => ?_⟩
  obtain ⟨a, e, hb, hc⟩ := h.2 (by rintro e; rw [show l = [] by simpa [u8s] using e] at hx; simp [u8s] at hx)
  refine ⟨a, e, hb, fun j u hu => hc j u ?_⟩
  rw [show u8s (l.take k) = (u8s l).take k by simp [u8s, List.map_take], List.getElem?_take] at hu
  split at hu
  · exact hu
  · cases hu
set_option maxHeartbeats 1000000 in
theorem cut_any (f : DF) (k : Nat) (w : World) (h : FAt w f) (hk : k ≤ f.l.length) : Calls Tryz.prog 44 #[f.val, .int .i64 k] w fun e w' => (∃ r, e = .returned r) ∧
    ∃ A' c', FAt w' ⟨f.s, f.g, A', c', f.l.take k, k⟩ ∧ (∀ b, (Value.slice A' (f.l.take k).length c').ownBlock = some b → w.heap.size ≤ b) ∧ Ag (fun j => j ≠ f.g) w w' := by
  have q0 := h.bk.cell 0
  have q1 := h.bk.cell 1
  simp only [List.getElem?_cons_zero, List.getElem?_cons_succ, DF.dv] at q0 q1
  have hlen := h.len
  obtain ⟨hrd, hlc, hcm⟩ := h.dat.rd
  have hl : (f.l.take k).length = k := by rw [List.length_take]; omega
  have hcl := clone_any _ f.A f.c (f.l.take k) w (rd_take hrd k) (by omega)
  rw [hl] at hcl
  have HL := Lib.hid hl
  have hkc : k ≤ f.c := by omega
  unfold maxLen at hcm
  clear hl hrd
  have hgl := h.bk.lt
  unfold DF.val
  go_enter Tryz.func44, Tryz.ntmps44
  go_wp2_with fail
  (with_reducible refine hcl.mono ?_)
  rintro _ w1 ⟨A', c', rfl, hd, hb⟩
  have bk1 := h.bk.below hb hgl
  have b0 := bk1.cell 0
  have b1 := bk1.cell 1
  simp only [List.getElem?_cons_zero, List.getElem?_cons_succ, DF.dv] at b0 b1
  have f0 := bk1.frozen 0
  have f1 := bk1.frozen 1
  have bk2 := bk1.set 0 (.slice A' k c')
  have b2 := bk2.cell 1
  have f2 := bk2.frozen 1
  have bk3 := bk2.set 1 (.int .i64 k)
  clear hcl q0 q1
  go_wp2_with fail
  have far : ∀ j, j ≠ f.g → ((w1.setCell ⟨f.g, 0, none⟩ (.slice A' k c')).setCell ⟨f.g, 1, none⟩ (.int .i64 k)).heap[j]? = w1.heap[j]? := fun j hj => (Below.heap_setCell _ _ _ j hj).trans (Below.heap_setCell _ _ _ j hj)
  have hsz : ((w1.setCell ⟨f.g, 0, none⟩ (.slice A' k c')).setCell ⟨f.g, 1, none⟩ (.int .i64 k)).heap.size = w1.heap.size := by simp [World.setCell]
  go_end0
  refine ⟨⟨_, rfl⟩, A', c', ⟨?_, ?_, ?_, ?_, h.sl⟩, fun b e => ?_, ⟨hb.os, hb.tape, hb.output, by rw [hsz]; exact hb.size, fun j j1 j2 => (far j j2).trans (hb.block j j1)⟩⟩
  · rw [DF.dv, HL.out]
    exact bk3
  · exact hd.keep (fun b q _ => far b (by omega)) (by rw [hsz]; exact Nat.le_refl _) (fun _ _ _ => trivial)
  · show (f.l.take k).length ≤ _
    rw [HL.out]; omega
  · show k ≤ (f.l.take k).length
    rw [HL.out]; exact Nat.le_refl _
  · rcases hd.form with ⟨e1, _⟩ | ⟨b'', cur, e1, hk', _⟩
    · rw [e1] at e; cases e
    · rw [e1] at e
      have e : some b'' = some b := e
      injection e with e
      rw [← e]; exact hk'
end Go.Proofs.YtcmbeolicopicaaGreat
