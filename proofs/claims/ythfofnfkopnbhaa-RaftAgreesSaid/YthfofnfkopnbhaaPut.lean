/- put: over this seat's program. -/
import Derived.Test.YthfofnfkopnbhaaOwn
import Derived.Deep.RegionLaw
import Derived.OwnWalk
namespace Go.Proofs.Ythfofnfkopnbhaa
open Go.RowKit
set_option linter.unusedVariables false
set_option maxRecDepth 100000

/-- The cells of a row of entries, the bytes of the i-th lying at Ds[i]. -/
def rowV : List En → List (Option Addr × Nat) → List Value
  | e :: es, d :: ds => enV e d.1 d.2 ++ rowV es ds
  | _, _ => []
/-- All blocks but two. -/
def But (w : World) (p g : Nat) (b : Nat) : Prop := b < w.heap.size ∧ b ≠ p ∧ b ≠ g
/-- The object at p holds a row of entries in block g. -/
structure LogAt (w : World) (p g : Nat) (made : Bool) (v : Value) (es : List En) (ds : List (Option Addr × Nat)) : Prop where
  obj : w.heap[p]? = some (.cells #[v, .bool made] 84 (0, 0))
  row : Row w 44 6 v g es.length (rowV es ds)
  len : ds.length = es.length
  ne : g ≠ p
  lt : v.ownBlock = some g → g < w.heap.size
  data : ∀ (i : Nat) (e : En) (d : Option Addr × Nat), es[i]? = some e → ds[i]? = some d → Rd w (But w p g) d.1 d.2 (u8s e.data) ∧ e.data.length ≤ d.2 ∧ d.2 ≤ maxLen

theorem LogAt.apart {w : World} {p g : Nat} {made : Bool} {v : Value} {es : List En} {ds : List (Option Addr × Nat)} (h : LogAt w p g made v es ds) : some p ≠ v.ownBlock := by
  rcases h.row.2 with ⟨h1, _⟩ | ⟨cap, cur, h1, _⟩
  · rw [h1]; exact fun e => by cases e
  · rw [h1]; exact fun e => h.ne (by injection e with e; exact e.symm)
theorem news_new (w : World) (cs : List Value) (t : TypeId) : ∀ j u, cs[j]? = some u → (w.alloc (.cells cs.toArray t)).cell? ((⟨w.heap.size, 0, none⟩ : Addr).add j) = some u := by
  intro j u hu
  have hadd : (⟨w.heap.size, 0, none⟩ : Addr).add j = ⟨w.heap.size, j, none⟩ := by unfold Addr.add; split <;> simp_all
  rw [hadd, cell_of_row _ _ j _ _ _ (heap_alloc_new w _)]
  simpa using hu
theorem enV_one (e : En) (A : Option Addr) (c : Nat) : ∀ u ∈ enV e A c, u.oneCell' = true := by
  intro u hu
  simp only [enV, List.mem_cons, List.not_mem_nil, or_false] at hu
  rcases hu with rfl | rfl | rfl | rfl | rfl | rfl <;> rfl
theorem Row.form {w : World} {e : TypeId} {size g n k : Nat} {v : Value} {xs : List Value} (h : Row w e size v g n xs) (hv : v.ownBlock = some k) : ∃ cap, v = .slice (some ⟨g, 0, none⟩) n cap := by
  rcases h.2 with ⟨rfl, _⟩ | ⟨cap, cur, rfl, _⟩
  · cases hv
  · exact ⟨cap, rfl⟩
/-- What a writing call on a log leaves: all blocks but p and g. -/
structure Sv (p g : Nat) (w w' : World) : Prop where
  os : w'.os = w.os
  tape : w'.tape = w.tape
  output : w'.output = w.output
  size : w.heap.size ≤ w'.heap.size
  block : ∀ b, b < w.heap.size → b ≠ p → b ≠ g → w'.heap[b]? = w.heap[b]?

theorem Row.ownB {w : World} {e : TypeId} {size g n : Nat} {v : Value} {xs : List Value} (h : Row w e size v g n xs) : v.ownBlock = none ∨ v.ownBlock = some g := by
  rcases h.2 with ⟨rfl, _⟩ | ⟨cap, cur, rfl, _⟩
  · exact .inl rfl
  · exact .inr rfl
theorem Sv.refl (p g : Nat) (w : World) : Sv p g w w := ⟨rfl, rfl, rfl, Nat.le_refl _, fun _ _ _ _ => rfl⟩
theorem rowV_snoc (x : En) (d : Option Addr × Nat) : ∀ (es : List En) (ds : List (Option Addr × Nat)), ds.length = es.length → rowV (es ++ [x]) (ds ++ [d]) = rowV es ds ++ enV x d.1 d.2
  | [], [], _ => by simp [rowV]
  | e :: es, c :: ds, h => by
    have := rowV_snoc x d es ds (by simpa using h)
    simp [rowV, this]
theorem setCell_obj {w : World} {p : Nat} {v v2 : Value} {b : Bool} {t : TypeId} (h : w.heap[p]? = some (.cells #[v, .bool b] t (0, 0))) : (w.setCell ⟨p, 0, none⟩ v2).heap[p]? = some (.cells #[v2, .bool b] t (0, 0)) := by
  have hp := (Array.getElem?_eq_some_iff.1 h).1
  have he : w.heap[p] = .cells #[v, .bool b] t (0, 0) := by rw [Array.getElem?_eq_getElem hp] at h; injection h
  simp [World.setCell, hp, Array.getElem_modify, he]
/-- One entry more: the log behind it, and what stays. -/
theorem LogAt.step {w wr w2 w3 : World} {p g g' g2 n2 cap2 : Nat} {m : Bool} {v' : Value} {es : List En} {ds' : List (Option Addr × Nat)} {x : En} {A' : Option Addr} {c' : Nat} {o : Obj} {K2 : Nat → Prop}
    (hL : LogAt wr p g' m v' es ds') (hS : Sv p g w wr) (hg : g' = g ∨ w.heap.size ≤ g') (hb : Below wr.heap.size wr w2) (hK2 : ∀ b, K2 b → wr.heap.size ≤ b ∧ b < w2.heap.size) (hr : Rd w2 K2 A' c' (u8s x.data)) (hl : x.data.length ≤ c') (hm : c' ≤ maxLen)
    (hgr : (w2.alloc o).grownBy w3 v'.ownBlock) (hg2 : g2 = (w2.alloc o).heap.size ∨ g2 = g' ∧ v'.ownBlock = some g') (hlt : g2 < w3.heap.size)
    (hrow : Row w3 44 6 (.slice (some ⟨g2, 0, none⟩) n2 cap2) g2 (es.length + 1) (rowV es ds' ++ enV x A' c')) :
    LogAt (w3.setCell ⟨p, 0, none⟩ (.slice (some ⟨g2, 0, none⟩) n2 cap2)) p g2 m (.slice (some ⟨g2, 0, none⟩) n2 cap2) (es ++ [x]) (ds' ++ [(A', c')]) ∧ Sv p g w (w3.setCell ⟨p, 0, none⟩ (.slice (some ⟨g2, 0, none⟩) n2 cap2)) ∧ (g2 = g ∨ w.heap.size ≤ g2) := by
  have hpl : p < wr.heap.size := (Array.getElem?_eq_some_iff.1 hL.obj).1
  have hs2 := hb.size
  have hsa : (w2.alloc o).heap.size = w2.heap.size + 1 := by simp
  have hs3 := hgr.size
  have hge : w.heap.size ≤ wr.heap.size := hS.size
  have hpg : p ≠ g2 := by
    rcases hg2 with h | ⟨h, _⟩
    · rw [h, hsa]; omega
    · rw [h]; exact fun e => hL.ne e.symm
  have old : ∀ b, b < wr.heap.size → b ≠ p → b ≠ g' → (w3.setCell ⟨p, 0, none⟩ (.slice (some ⟨g2, 0, none⟩) n2 cap2)).heap[b]? = wr.heap[b]? := by
    intro b h1 h2 h3
    rw [Below.heap_setCell _ _ _ _ h2, hgr.block b (by omega) ?_, heap_alloc_old w2 _ (by omega), hb.block b h1]
    rcases hL.row.ownB with e | e
    · rw [e]; exact fun h => by cases h
    · rw [e]; exact fun h => h3 (by injection h)
  have new : ∀ b, wr.heap.size ≤ b → b < w2.heap.size → (w3.setCell ⟨p, 0, none⟩ (.slice (some ⟨g2, 0, none⟩) n2 cap2)).heap[b]? = w2.heap[b]? := by
    intro b h1 h2
    rw [Below.heap_setCell _ _ _ _ (by show b ≠ p; omega), hgr.block b (by omega) ?_, heap_alloc_old w2 _ (by omega)]
    rcases hL.row.ownB with e | e
    · rw [e]; exact fun h => by cases h
    · have := hL.lt e
      rw [e]; exact fun h => by injection h with h; omega
  have hob3 : w3.heap[p]? = some (.cells #[v', .bool m] 84 (0, 0)) := by
    rw [hgr.block p (by omega) hL.apart, heap_alloc_old w2 _ (by omega), hb.block p hpl]
    exact hL.obj
  have hsz : (w3.setCell ⟨p, 0, none⟩ (.slice (some ⟨g2, 0, none⟩) n2 cap2)).heap.size = w3.heap.size := by simp [World.setCell]
  have hg2n : ∀ b, b < wr.heap.size → b ≠ g' → b ≠ g2 := by
    intro b h1 h2 e
    rcases hg2 with h | ⟨h, _⟩
    · rw [hsa] at h; omega
    · exact h2 (e.trans h)
  have hg2m : ∀ b, wr.heap.size ≤ b → b < w2.heap.size → b ≠ g2 := by
    intro b h1 h2 e
    rcases hg2 with h | ⟨h, h'⟩
    · rw [hsa] at h; omega
    · have := hL.lt h'; omega
  refine ⟨⟨setCell_obj hob3, ?_, by simp [hL.len], fun e => hpg e.symm, fun _ => by rw [hsz]; exact hlt, ?_⟩, ⟨?_, ?_, ?_, by rw [hsz]; omega, fun b h1 h2 h3 => (old b (by omega) h2 ?_).trans (hS.block b h1 h2 h3)⟩, ?_⟩
  · rw [rowV_snoc _ _ _ _ hL.len, List.length_append]
    exact hrow.keep (fun _ => Below.heap_setCell _ _ _ _ (fun e => hpg e.symm))
  · intro i e d hi hd
    have hlen := hL.len
    rcases Nat.lt_or_ge i es.length with h | h
    · rw [List.getElem?_append_left h] at hi
      rw [List.getElem?_append_left (by omega)] at hd
      obtain ⟨h1, h2, h3⟩ := hL.data i e d hi hd
      exact ⟨h1.keep (fun b hb' => old b hb'.1 hb'.2.1 hb'.2.2) (fun b hb' => ⟨by rw [hsz]; have := hb'.1; omega, hb'.2.1, hg2n b hb'.1 hb'.2.2⟩), h2, h3⟩
    · have hi0 : i = es.length := by
        have := (List.getElem?_eq_some_iff.1 hi).1
        simp at this
        omega
      subst hi0
      simp at hi
      rw [← hlen] at hd
      simp at hd
      subst hi
      subst hd
      exact ⟨hr.keep (fun b hb' => new b (hK2 b hb').1 (hK2 b hb').2) (fun b hb' => ⟨by rw [hsz]; have := (hK2 b hb').2; omega, by have := (hK2 b hb').1; omega, hg2m b (hK2 b hb').1 (hK2 b hb').2⟩), hl, hm⟩
  · exact hgr.os.trans (hb.os.trans hS.os)
  · exact hgr.tape.trans (hb.tape.trans hS.tape)
  · exact hgr.output.trans (hb.output.trans hS.output)
  · rcases hg with e | e <;> omega
  · rcases hg2 with h | ⟨h, _⟩
    · right; rw [h, hsa]; omega
    · rw [h]; exact hg

theorem info37 : (Try.prog.info? 44).map (fun i => (i.zero, i.size, i.bytes)) = some (some (.agg #[.int .i64 0, .int .u8 0, .int .i64 0, .int .i64 0, .bool false, .slice none 0 0]), 6, 64) := by kernel_rfl
set_option maxRecDepth 100000 in
set_option maxHeartbeats 1000000 in
theorem put_any (K : Nat → Prop) (A : Option Addr) (c : Nat) (ns : List En) (w : World) (p g : Nat) (v : Value) (es : List En) (ds : List (Option Addr × Nat)) (h : LogAt w p g true v es ds)
    (ha : Ents w K A c ns) (hK : ∀ b, K b → But w p g b) (hs : es.length + ns.length ≤ 100000) (hd : ∀ e ∈ ns, e.data.length ≤ 100000000) :
    Calls Try.prog 39 #[.pointer (some ⟨p, 0, none⟩), .slice A ns.length c] w fun x w' => (∃ r, x = .returned r) ∧ ∃ v' g' ds', LogAt w' p g' true v' (es ++ ns) ds' ∧ Sv p g w w' ∧ (g' = g ∨ w.heap.size ≤ g') := by
  obtain ⟨i0, hi, hz, hz1, hz2⟩ := info_parts info37
  go_enter Try.func39, Try.ntmps39
  go_wp2_with fail
  go_loopw [8] (fun i wr => ∃ k : Nat, k ≤ ns.length ∧ i = .int .i64 k ∧ ∃ v' g' ds', LogAt wr p g' true v' (es ++ ns.take k) ds' ∧ Sv p g w wr ∧ (g' = g ∨ w.heap.size ≤ g')) (fun i _ => ns.length - (intOf i).toNat)
  case atStart => exact ⟨0, Nat.zero_le _, rfl, v, g, ds, by simpa using h, Sv.refl _ _ _, .inl rfl⟩
  case round =>
    obtain ⟨k, hk, rfl, v', g', ds', hL, hS, hg⟩ := hrel
    by_cases hlt : k < ns.length
    · have d1 : decide ((k : Int) < (ns.length : Int)) = true := decide_eq_true (by omega)
      have ha' : Ents wr K A c ns := ha.keep (fun b hb => let ⟨h1, h2, h3⟩ := hK b hb; hS.block b h1 h2 h3) (fun _ h => h)
      obtain ⟨a, x, D, d, rfl, ka, hx, ca, ra, la, ma⟩ := ha'.at_ hlt
      obtain ⟨a0, a1, a2, a3, a4, a5⟩ := en6 ca
      clear ca
      have hw0 : wr.heap.size = wr.heap.size := rfl
      go_wp2_with fail
      clear a0 a1 a2 a3 a4 a5
      have hbA : Below wr.heap.size wr (wr.alloc (Obj.cells #[Value.int IntKind.i64 x.term, Value.int IntKind.u8 x.kind, Value.int IntKind.i64 x.ver, Value.int IntKind.i64 x.srv, Value.bool x.good, Value.slice D x.data.length d] 44)) := (Below.refl _ _).alloc (Nat.le_refl _) _
      obtain ⟨c0, c1, c2, c3, c4, c5⟩ := cells6 (heap_alloc_new wr (Obj.cells #[Value.int IntKind.i64 x.term, Value.int IntKind.u8 x.kind, Value.int IntKind.i64 x.ver, Value.int IntKind.i64 x.srv, Value.bool x.good, Value.slice D x.data.length d] 44))
      generalize (wr.alloc (Obj.cells #[Value.int IntKind.i64 x.term, Value.int IntKind.u8 x.kind, Value.int IntKind.i64 x.ver, Value.int IntKind.i64 x.srv, Value.bool x.good, Value.slice D x.data.length d] 44)) = wa at *
      have hpl : p < wr.heap.size := (Array.getElem?_eq_some_iff.1 hL.obj).1
      have ob : wa.heap[p]? = some (.cells #[v', .bool true] 84 (0, 0)) := (hbA.block p hpl).trans hL.obj
      have oc : wa.cell? ⟨p, 0, none⟩ = some v' := by rw [cell_of_row wa p 0 _ _ _ ob]; rfl
      have hfx := frozen_blk ob 0
      have hKr : ∀ b, K b → b < wr.heap.size := fun b hb => Nat.lt_of_lt_of_le (hK b hb).1 hS.size
      have hcon := own_any K x D d wa.drew (ra.keep (fun b hb => hbA.block b (hKr b hb)) (fun _ h => h)) (fun b hb => Nat.lt_of_lt_of_le (hKr b hb) hbA.size) (hd x (List.mem_of_getElem? hx.out))
      simp only [enA, enV] at hcon
      have rowK : ∀ W : World, (v'.ownBlock = some g' → W.heap[g']? = wa.heap[g']?) → Row W 44 6 v' g' (es ++ ns.take k).length (rowV (es ++ ns.take k) ds') := fun W hW => hL.row.keep (fun e => (hW e).trans (hbA.block g' (hL.lt e)))
      have hln : (es ++ ns.take k).length + 1 ≤ 100000 := by simp; omega
      go_region_law (first
        | (refine step_append_row _ (by rfl) (.tmp 16) (.tmp 19) 34 (by rfl) 44 i0 _ 6 _ Try.underlying34 hi hz hz1 hz2 rfl v' g' _ _ (by rfl) (rowK _ ?_) ⟨w2.heap.size, 0, none⟩ 1 1 (enV x A' c') (by rfl) (by rfl) ?_ ?_ ?_ ?_ (by decide) ?_
           · intro e
             have h3 : g' < wa.heap.size := Nat.lt_of_lt_of_le (hL.lt e) hbA.size
             exact (heap_alloc_old w2 _ (Nat.lt_of_lt_of_le h3 hbo.size)).trans (hbo.block g' h3)
           · exact news_new w2 (enV x A' c') 44
           · exact enV_one x A' c'
           · unfold maxLen; omega
           · omega
           intro v2 w3 g2 hrow2 hgr hv2 hg2 hlt2
           obtain ⟨cap2, rfl⟩ := hrow2.form hv2
           have ob3 : w3.heap[p]? = some (.cells #[v', .bool true] 84 (0, 0)) := (hgr.block p (by simp; exact Nat.lt_succ_of_lt (Array.getElem?_eq_some_iff.1 ob2).1) (hL.apart)).trans ((heap_alloc_old w2 _ (Array.getElem?_eq_some_iff.1 ob2).1).trans ob2)
           have oc3 : w3.cell? ⟨p, 0, none⟩ = some v' := by rw [cell_of_row w3 p 0 _ _ _ ob3]; rfl
           have of3 := frozen_blk ob3 0)
        | (go_simp; go_at_call 58; refine hcon.mono ?_; rintro r w2 ⟨A', c', rfl, hr2, hl2, hm2, hbo⟩
           have ob2 : w2.heap[p]? = some (.cells #[v', .bool true] 84 (0, 0)) := (hbo.block p (Nat.lt_of_lt_of_le hpl hbA.size)).trans ob
           have oc2 : w2.cell? ⟨p, 0, none⟩ = some v' := by rw [cell_of_row w2 p 0 _ _ _ ob2]; rfl
           have oc2' : ∀ o, (w2.alloc o).cell? ⟨p, 0, none⟩ = some v' := fun o => (World.cell?_of_block (heap_alloc_old w2 o (Array.getElem?_eq_some_iff.1 ob2).1)).trans oc2))
      all_goals
        have hln' : (es ++ ns.take k).length = es.length + k := by simp; omega
        obtain ⟨s1, s2, s3⟩ := hL.step hS hg ((hbA.drew).trans (hbo.mono hbA.size)) (fun b hb => ⟨Nat.le_trans hbA.size hb.1, hb.2⟩) hr2 hl2 hm2 hgr hg2 hlt2 hrow2
        rw [hln'] at s1 s2
        clear hrow2 hgr hg2 hbo rowK hcon hL hS ob ob2 ob3 oc oc2 oc2' oc3 of3 hfx c0 c1 c2 c3 c4 c5 ha' hlt2
        have ht : es ++ ns.take k ++ [x] = es ++ ns.take (k + 1) := by rw [List.append_assoc, List.take_add_one, hx.out]; rfl
        rw [ht] at s1
        go_wp2_with fail
        go_roundw
        case rel => exact ⟨k + 1, by omega, by go_num, _, _, _, s1, s2, s3⟩
        case measure => simp [intOf]; omega
    · have d1 : decide ((k : Int) < (ns.length : Int)) = false := decide_eq_false (by omega)
      have hk2 : ns.take k = ns := List.take_of_length_le (by omega)
      rw [hk2] at hL
      clear hk2
      go_wp2_with fail
      go_end0
      exact ⟨⟨_, rfl⟩, v', g', ds', hL, hS, hg⟩
end Go.Proofs.Ythfofnfkopnbhaa
