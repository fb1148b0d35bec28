/-
  The abstract interpreter, its soundness: conversions; single operations.
-/
import Derived.Test.YtabjigkabgecaaaGreatDoorEng17
namespace Go.Eng
variable {P : Program} {D : Tab} {φ : Phi} {s : St} {w : World} {T : PT AV} {ρ : Operand → Value}

theorem bytes_loop (w : World) {f : Value → ByteArray → Sem (ForInStep ByteArray)} (hf : ∀ n r, f (.int .u8 n) r = pure (ForInStep.yield (r.push (UInt8.ofNat n.toNat)))) : ∀ (l : List AV) (us : List Value) (bs : List UInt8) (acc : ByteArray), VRs φ l us → asBytes l = some bs →
    (forIn us acc f).run P w = .ok ⟨acc.data ++ bs.toArray⟩ w
  | [], us, bs, acc, hv, h => by
    simp [asBytes] at h
    subst h
    cases hv
    simp
  | a :: l, us, bs, acc, hv, h => by
    cases hv with
    | cons hv hvs =>
      unfold asBytes at h
      split at h
      · simp at *
      · rename_i n r hh
        simp at hh
        obtain ⟨rfl, rfl⟩ := hh
        split at h
        · rename_i b hb
          simp at h
          subst h
          cases hv
          have ih := bytes_loop w hf l _ b (acc.push (UInt8.ofNat n.toNat)) hvs hb
          simp only [List.forIn_cons, hf, Sem.run_bind, Sem.run_pure, Result.andThen_ok]
          rw [ih]
          simp [ByteArray.push]
        · simp at h
      · simp at h

theorem bytesOf_ok (hr : Rel φ s w) {x : AV} {xv : Value} {b : ByteArray} (hx : VR φ x xv) (h : bytesOf s x = some b) : (Conv.bytesToString xv).run P w = .ok (.string b) w := by
  unfold bytesOf at h
  split at h
  · simp at h; subst h; cases hx; simp [Conv.bytesToString]
  · split at h
    · rename_i c n tl hb
      split at h
      · rename_i hn
        split at h
        · rename_i l hl
          split at h
          · rename_i bs hbs
            simp at h
            subst h
            cases hx with
            | slice hrb hc =>
              obtain ⟨us, h1, h2, h3⟩ := read_cells (P := P) hr hb (ble_true hn) hl hrb
              simp only [Conv.bytesToString, Sem.run_bind, h3, Result.andThen_ok]
              have e : ∀ (f : Value → ByteArray → Sem (ForInStep ByteArray)), forIn us.toArray ByteArray.empty f = forIn us ByteArray.empty f := fun f => by simp
              rw [e]
              rw [bytes_loop (P := P) w (fun _ _ => rfl) l us bs ByteArray.empty h1 hbs]
              simp
          · simp at h
        · simp at h
      · simp at h
    · simp at h
  · simp at h

theorem newBytes_ok (hr : Rel φ s w) (t : ByteArray) (e : TypeId) : ∃ φ' u w', VR φ' (newBytes s t).1 u ∧ (Conv.stringToBytes e t).run P w = .ok u w' ∧ Stp φ s w φ' (newBytes s t).2 w' ∧ Rel φ' (newBytes s t).2 w' := by
  obtain ⟨c, d, hc1, hc2⟩ := choose_cap (P := P) t.size 0 e w
  have hrd := hr.drawn d
  obtain ⟨h3, h4⟩ := hrd.setC c
  have hfr := h3.fresh s.nx (Nat.le_refl _)
  let us : List Value := t.data.toList.map fun b => .int .u8 b.toNat
  let rest : List Value := List.replicate (c - t.size) (.int .u8 0)
  have hul : us.length = t.size := by simp only [us, List.length_map]; rfl
  have hv : VRs ((φ.setC s.nc c).setB s.nx (w.heap.size, 0)) (t.data.toList.map fun b => .int .u8 b.toNat) us := by
    simp only [us]
    induction t.data.toList with
    | nil => exact .nil
    | cons a r ih => exact .cons (.int _ _) ih
  have hsz : (us ++ rest).toArray.size = c := by
    simp only [List.size_toArray, List.length_append, hul, rest, List.length_replicate]; omega
  have hcells : CellsR ((φ.setC s.nc c).setB s.nx (w.heap.size, 0)) 0 (PT.setAll .nil 0 (t.data.toList.map fun b => .int .u8 b.toNat)) t.size (us ++ rest).toArray := by
    refine ⟨by rw [hsz]; omega, fun i hi => ?_⟩
    have hl : (t.data.toList.map fun b => (AV.int .u8 b.toNat)).length = t.size := by rw [hv.length]; exact hul
    obtain ⟨u, g1, g2⟩ := hv.get i _ (List.getElem?_eq_getElem (by omega))
    refine ⟨_, u, ?_, ?_, g2⟩
    · rw [PT.get_setAll, if_pos (by omega)]
      simp only [Nat.sub_zero]
      exact List.getElem?_eq_getElem (by omega)
    · simp only [Nat.zero_add, List.getElem?_toArray]
      rw [List.getElem?_append_left (by omega)]
      exact g1
  have := h3.put_new (b := s.nx) (o := .cells (PT.setAll .nil 0 (t.data.toList.map fun b => .int .u8 b.toNat)) t.size (some (s.nc, 1))) (ro := .cells (us ++ rest).toArray e (c, c + 1)) hfr rfl (s' := (newBytes s t).2) rfl (by simp [newBytes]) (by simp [newBytes]) rfl
    (.tail (cp := c) hcells (by simp [Phi.setB, Phi.setC]) (by rw [hsz]; omega) (.inr ⟨rfl, by rw [hsz]; exact Nat.le_refl _⟩))
  have hb : ((φ.setC s.nc c).setB s.nx (w.heap.size, 0)).blk s.nx = some (w.heap.size, 0) := by simp [Phi.setB]
  have hcp : CR ((φ.setC s.nc c).setB s.nx (w.heap.size, 0)) (.var s.nc 0) (c - 0) := .var (by simp [Phi.setB, Phi.setC])
  refine ⟨_, .slice (some ⟨w.heap.size, 0, none⟩) t.size c, _, ?_, ?_, ((Stp.drawn φ s w d).trans h4).trans this.2, this.1⟩
  · simpa [newBytes] using VR.slice hb hcp 0 t.size (by omega)
  · have e1 : (t.data.map fun b => (Value.int .u8 b.toNat)) ++ Array.replicate (c - t.size) (Value.int .u8 0) = (us ++ rest).toArray := by
      apply Array.toList_inj.1
      simp [us, rest]
    simp only [Conv.stringToBytes, Sem.run_bind, hc2, Result.andThen_ok, newRow, e1, run_newObj, Sem.run_pure]
    simp only [markStringish, Sem.run_bind, run_shape, World.shape?, Array.getElem?_push_size, hsz, Result.andThen_ok, run_freeze]
    congr 1
    simp only [World.freeze]
    rw [if_neg (by omega)]
    congr 1
    apply Array.ext
    · simp
    · intro i h1 h2
      simp only [Array.getElem_modify]
      simp at h2
      by_cases hi : i = w.heap.size
      · subst hi
        simp
      · have : i < w.heap.size := by omega
        simp [Array.getElem_push, this, Ne.symm hi]

section
variable (hD : TabOk P D)
include hD

theorem isByte_ok {e : TypeId} (h : isByte D e = true) (w : World) : (underlying e).run P w = .ok (.int .u8) w := by
  unfold isByte at h
  split at h
  · rename_i i hi
    obtain ⟨d, hq, hd, hu⟩ := run_under hD hi w
    rw [hd] at h
    clear hq hd
    cases d <;> simp [tdOf] at h
    rename_i k
    cases k <;> simp at h
    exact hu
  · simp at h

omit hD in
theorem markA_ok (hr : Rel φ s w) {x v : AV} {xv : Value} {s' : St} (hx : VR φ x xv) (h : markA s x = some (v, s')) :
    ∃ a n c, xv = .slice (some a) n c ∧ ∃ φ' w', (markStringish a).run P w = .ok () w' ∧ VR φ' v xv ∧ Stp φ s w φ' s' w' ∧ Rel φ' s' w' := by
  unfold markA at h
  split at h
  · rename_i b o l cap
    split at h
    · rename_i c n hb
      simp at h
      obtain ⟨rfl, rfl⟩ := h
      cases hx with
      | slice hrb hc _ _ hn =>
        rename_i r sh cc
        obtain ⟨r', sh', ro, g1, g2, g3⟩ := hr.obj b _ hb
        rw [hrb] at g1
        simp at g1
        obtain ⟨rfl, rfl⟩ := g1
        cases g3 with
        | cells hcells =>
          rename_i arr e
          have hle := hcells.1
          obtain ⟨h3, h4⟩ := hr.setC (arr.size - sh)
          have hext : φ.le (φ.setC s.nc (arr.size - sh)) := h4.ext
          obtain ⟨p1, p2⟩ := h3.put_old (b := b) (r := r) (sh := sh) (o := .cells c n (some (s.nc, 1))) (ro := .cells arr e (arr.size, arr.size + 1)) (by simp [hb]) (hext.blk _ _ hrb)
            (.tail (cp := arr.size - sh) (hcells.mono hext) (by simp [Phi.setC]) (by omega) (.inr ⟨rfl, Nat.le_refl _⟩))
          refine ⟨_, _, _, rfl, _, _, ?_, (VR.slice hrb hc o l hn).mono hext, h4.trans p2, p1⟩
          have hlt := (Array.getElem?_eq_some_iff.1 g2).1
          have hsh : w.shape? r = some (e, arr.size) := by simp [World.shape?, g2]
          simp only [markStringish, Sem.run_bind, run_shape, hsh, Result.andThen_ok, run_freeze]
          congr 1
          simp only [World.freeze]
          rw [if_neg (by omega)]
          congr 1
          apply Array.ext
          · simp
          · intro i h1 h2
            simp only [Array.getElem_modify]
            by_cases hi : r = i
            · subst hi
              have : w.heap[r] = .cells arr e (0, 0) := (Array.getElem?_eq_some_iff.1 g2).2
              simp [this]
            · rw [if_neg hi, Array.getElem_setIfInBounds_ne (by simpa using h1) hi]
    · simp at h
  · simp at h

theorem convS_ok (hr : Rel φ s w) {a b : TypeId} {x v : AV} {xv : Value} {s' : St} (hx : VR φ x xv) (h : convS D s a b x = some (v, s')) :
    ∃ φ' u w', VR φ' v u ∧ (convert a b xv).run P w = .ok u w' ∧ Stp φ s w φ' s' w' ∧ Rel φ' s' w' := by
  unfold convS at h
  split at h
  · rename_i i j hi hj
    obtain ⟨d1, _, e1, u1⟩ := run_under hD hi w
    obtain ⟨d2, _, e2, u2⟩ := run_under hD hj w
    rw [e1, e2] at h
    split at h
    · rename_i k hk
      obtain rfl : d2 = .int k := by cases d2 <;> simp [tdOf] at hk; rw [hk]
      split at h
      · simp at h
        obtain ⟨rfl, rfl⟩ := h
        cases hx
        exact ⟨φ, _, w, .int _ _, by simp [convert, u1, u2, Conv.intToInt], Stp.refl _ _ _, hr⟩
      · simp at h
        obtain ⟨rfl, rfl⟩ := h
        cases hx with
        | @tm _ _ n ht => exact ⟨φ, .int k (k.wrap n), w, .tm k _ (by simp only [Tm.ev, ht]), by simp [convert, u1, u2, Conv.intToInt], Stp.refl _ _ _, hr⟩
      · simp at h
    · rename_i hk1 hk2
      obtain rfl : d1 = .string := by cases d1 <;> simp [tdOf] at hk1; rfl
      obtain rfl : d2 = .string := by cases d2 <;> simp [tdOf] at hk2; rfl
      split at h
      · simp at h
        obtain ⟨rfl, rfl⟩ := h
        cases hx
        exact ⟨φ, _, w, .str _, by simp [convert, u1, u2], Stp.refl _ _ _, hr⟩
      · simp at h
    · rename_i e hk1 hk2
      obtain rfl : d1 = .slice e := by cases d1 <;> simp [tdOf] at hk1; rw [hk1]
      obtain rfl : d2 = .string := by cases d2 <;> simp [tdOf] at hk2; rfl
      split at h
      · rename_i hb
        have hby := isByte_ok hD hb w
        split at h
        · rename_i bs hbs
          simp at h
          obtain ⟨rfl, rfl⟩ := h
          have hrun := bytesOf_ok (P := P) hr hx hbs
          have hxs : ∃ a n c, xv = .slice a n c := by
            unfold bytesOf at hbs
            split at hbs
            · cases hx; exact ⟨_, _, _, rfl⟩
            · cases hx; exact ⟨_, _, _, rfl⟩
            · simp at hbs
          obtain ⟨a1, n1, c1, rfl⟩ := hxs
          exact ⟨φ, _, w, .str _, by simp [convert, u1, u2, hby, hrun], Stp.refl _ _ _, hr⟩
        · simp at h
      · simp at h
    · rename_i e hk1 hk2
      obtain rfl : d1 = .string := by cases d1 <;> simp [tdOf] at hk1; rfl
      obtain rfl : d2 = .slice e := by cases d2 <;> simp [tdOf] at hk2; rw [hk2]
      split at h
      · rename_i hb
        have hby := isByte_ok hD hb w
        split at h
        · rename_i t
          cases hx
          obtain ⟨φ', u, w', g1, g2, g3, g4⟩ := newBytes_ok (P := P) hr t e
          simp at h
          rw [h] at g1 g3 g4
          exact ⟨φ', u, w', g1, by simp [convert, u1, u2, hby, g2], g3, g4⟩
        · simp at h
      · simp at h
    · rename_i e e' hk1 hk2
      obtain rfl : d1 = .slice e := by cases d1 <;> simp [tdOf] at hk1; rw [hk1]
      obtain rfl : d2 = .slice e' := by cases d2 <;> simp [tdOf] at hk2; rw [hk2]
      split at h
      · rename_i hcond
        simp only [Bool.and_eq_true] at hcond
        have hab := beq_true hcond.1
        subst hab
        rw [u1] at u2
        simp at u2
        subst u2
        have hby := isByte_ok hD hcond.2 w
        obtain ⟨a1, n1, c1, rfl, φ', w', g1, g2, g3, g4⟩ := markA_ok (P := P) hr hx h
        exact ⟨φ', _, w', g2, by simp [convert, u1, hby, g1], g3, g4⟩
      · simp at h
    · simp at h
  · simp at h

end
end Go.Eng
