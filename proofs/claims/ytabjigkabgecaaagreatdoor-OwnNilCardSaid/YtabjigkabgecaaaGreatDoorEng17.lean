/-
  The abstract interpreter, its soundness: builtins, conversions.
-/
import Derived.Test.YtabjigkabgecaaaGreatDoorEng16
namespace Go.Eng
variable {P : Program} {D : Tab} {φ : Phi} {s : St} {w : World} {T : PT AV} {ρ : Operand → Value}

theorem maxA_ok : ∀ (r : List AV) (x v : AV) (g : Bool) (xv : Value) (us : List Value), VR φ x xv → VRs φ r us → maxA x r g = some v →
    ∃ u, VR φ v u ∧ ∀ w, (us.foldlM (if g then Builtin.max2 else Builtin.min2) xv).run P w = .ok u w
  | [], x, v, g, xv, us, hx, hr, h => by
    simp [maxA] at h
    subst h
    cases hr
    exact ⟨xv, hx, fun w => by simp⟩
  | y :: r, x, v, g, xv, us, hx, hr, h => by
    cases hr with
    | cons hy hr =>
      have key : ∃ k k' a b, x = .int k a ∧ y = .int k' b := by
        unfold maxA at h
        split at h
        · simp at *
        · rename_i hh
          exact ⟨_, _, _, _, rfl, (List.cons.inj hh).1⟩
        · simp at h
      obtain ⟨k, k', a, b, rfl, rfl⟩ := key
      simp only [maxA] at h
      cases hx; cases hy
      obtain ⟨u, h1, h2⟩ := maxA_ok r _ v g _ _ (.int k _) hr h
      refine ⟨u, h1, fun w => ?_⟩
      cases g
      · simp only [Bool.false_eq_true, if_false] at h2 ⊢
        simp [List.foldlM_cons, Builtin.min2, h2]
      · simp only [if_true] at h2 ⊢
        simp [List.foldlM_cons, Builtin.max2, h2]

section
variable (hD : TabOk P D)
include hD

theorem lenA_ok (hr : Rel φ s w) {t : TypeId} {x v : AV} {xv : Value} (hx : VR φ x xv) (h : lenA D s t x = some v) (ty : TypeId) : ∃ u, VR φ v u ∧ (Builtin.len_ #[t] ty #[xv]).run P w = .ok u w := by
  unfold lenA at h
  split at h
  · rename_i i hi
    obtain ⟨de, _, hde, hu⟩ := run_under hD hi w
    rw [hde] at h
    split at h
    all_goals first | (simp at h; done) | skip
    · rename_i hd
      obtain rfl : de = .string := by cases de <;> simp [tdOf] at hd; rfl
      simp at h; subst h; cases hx
      exact ⟨_, .int _ _, by simp [Builtin.len_, hu, goInt]⟩
    · rename_i e hd
      obtain rfl : de = .slice e := by cases de <;> simp [tdOf] at hd; rw [hd]
      simp at h; subst h; cases hx
      exact ⟨_, .int _ _, by simp [Builtin.len_, hu, goInt]⟩
    · rename_i e _ _ _ _ hd
      obtain rfl : de = .slice e := by cases de <;> simp [tdOf] at hd; rw [hd]
      simp at h; subst h; cases hx
      exact ⟨_, .int _ _, by simp [Builtin.len_, hu, goInt]⟩
    · rename_i e _ hd
      obtain rfl : de = .slice e := by cases de <;> simp [tdOf] at hd; rw [hd]
      simp at h; subst h; cases hx
      exact ⟨_, .int _ _, by simp [Builtin.len_, hu, goInt]⟩
    · rename_i k e hd
      obtain rfl : de = .map k e := by cases de <;> simp [tdOf] at hd; obtain ⟨rfl, rfl⟩ := hd; rfl
      simp at h; subst h; cases hx
      exact ⟨_, .int _ _, by simp [Builtin.len_, hu, goInt]⟩
    · rename_i k e m hd
      obtain rfl : de = .map k e := by cases de <;> simp [tdOf] at hd; obtain ⟨rfl, rfl⟩ := hd; rfl
      split at h
      · rename_i es ck hm
        simp at h; subst h
        cases hx with
        | map hrb =>
          obtain ⟨fs, g1, g2⟩ := hr.map hm hrb
          have hl := g2.length
          have e1 : es.length = fs.size := by simpa using hl
          exact ⟨_, .int _ _, by simp [Builtin.len_, hu, goInt, run_getObj_of g1, e1]⟩
      · simp at h
    · rename_i n e hd
      obtain rfl : de = .array n e := by cases de <;> simp [tdOf] at hd; obtain ⟨rfl, rfl⟩ := hd; rfl
      simp at h; subst h
      exact ⟨_, .int _ _, by cases hx <;> simp [Builtin.len_, hu, goInt]⟩
  · simp at h

theorem capA_ok {t : TypeId} {x v : AV} {xv : Value} (hx : VR φ x xv) (h : capA D t x = some v) (ty : TypeId) (w : World) : ∃ u, VR φ v u ∧ (Builtin.cap_ #[t] ty #[xv]).run P w = .ok u w := by
  unfold capA at h
  split at h
  · rename_i i hi
    obtain ⟨de, _, hde, hu⟩ := run_under hD hi w
    rw [hde] at h
    split at h
    · rename_i e hd
      obtain rfl : de = .slice e := by cases de <;> simp [tdOf] at hd; rw [hd]
      simp at h; subst h; cases hx
      exact ⟨_, .int _ _, by simp [Builtin.cap_, hu, goInt]⟩
    · rename_i e _ _ _ n hd
      obtain rfl : de = .slice e := by cases de <;> simp [tdOf] at hd; rw [hd]
      simp at h; subst h
      cases hx with
      | slice _ hc =>
        cases hc
        exact ⟨_, .int _ _, by simp [Builtin.cap_, hu, goInt]⟩
    · rename_i e hd
      obtain rfl : de = .slice e := by cases de <;> simp [tdOf] at hd; rw [hd]
      simp at h; subst h
      cases hx with
      | slice0 _ a c hz =>
        obtain rfl := hz rfl
        exact ⟨_, .int _ _, by simp [Builtin.cap_, hu, goInt]⟩
    · simp at h
  · simp at h

theorem deleteA_all (hr : Rel φ s w) {t t2 : TypeId} {m k v : AV} {mv kv : Value} {s' : St} (hm : VR φ m mv) (hk : VR φ k kv) (h : deleteA D s t m k = some (v, s')) (ty : TypeId) :
    ∃ u w', VR φ v u ∧ (Builtin.delete_ #[t, t2] ty #[mv, kv]).run P w = .ok u w' ∧ Stp φ s w φ s' w' ∧ Rel φ s' w' := by
  unfold deleteA at h
  split at h
  · rename_i i hi
    split at h
    · rename_i kt et hid
      obtain ⟨d, sz, bb, zz, hh⟩ := i
      simp at hid
      subst hid
      split at h
      · rename_i hko
        split at h
        · simp at h
          obtain ⟨rfl, rfl⟩ := h
          cases hm
          have hu := mapTy hD hi w
          have hck := keyOk_ok hD hk hko true w
          exact ⟨_, w, .tuple .nil, by simp [Builtin.delete_, hu, hck], Stp.refl _ _ _, hr⟩
        · rename_i b
          split at h
          · rename_i es clock hb
            split at h
            · simp at h
            · rename_i j v' hf
              simp at h
              obtain ⟨rfl, rfl⟩ := h
              obtain ⟨w', w1, w2, w3⟩ := deleteA_ok hD hr hi hm hk hko hb hf (ats := #[t, t2]) rfl ty
              exact ⟨_, w', .tuple .nil, w1, w2, w3⟩
            · rename_i hf
              simp at h
              obtain ⟨rfl, rfl⟩ := h
              obtain ⟨w', w1, w2, w3⟩ := deleteA_ok hD hr hi hm hk hko hb hf (ats := #[t, t2]) rfl ty
              exact ⟨_, w', .tuple .nil, w1, w2, w3⟩
          · simp at h
        · simp at h
      · simp at h
    · simp at h
  · simp at h

omit hD in
theorem avLen_ok {x : AV} {xv : Value} {n : Nat} (hx : VR φ x xv) (h : avLen x = some n) (w : World) : (Builtin.lenOf xv).run P w = .ok n w := by
  unfold avLen at h
  split at h <;> simp at h <;> subst h <;> cases hx <;> simp [Builtin.lenOf]

omit hD in
theorem firstA_ok (hr : Rel φ s w) {size k : Nat} {y : AV} {yv : Value} {l : List AV} (hy : VR φ y yv) (h : firstA s.h size k y = some l) : ∃ us, VRs φ l us ∧ (Builtin.firstCells size k yv).run P w = .ok us.toArray w := by
  unfold firstA at h
  split at h
  · simp at h; subst h; cases hy; exact ⟨[], .nil, by simp [Builtin.firstCells]⟩
  · split at h
    · rename_i c n tl hb
      split at h
      · rename_i hn
        cases hy with
        | slice hrb hc =>
          obtain ⟨us, h1, h2, h3⟩ := read_cells (P := P) hr hb (ble_true hn) h hrb
          exact ⟨us, h1, by simp [Builtin.firstCells, h3]⟩
      · simp at h
    · simp at h
  · rename_i t
    split at h
    · simp only [Option.some.injEq] at h
      subst h
      cases hy
      refine ⟨(t.data.toList.take k).map fun x => .int .u8 x.toNat, ?_, ?_⟩
      · induction t.data.toList.take k with
        | nil => exact .nil
        | cons a r ih => exact .cons (.int _ _) ih
      · simp only [Builtin.firstCells, Sem.run_pure]
        congr 1
        apply Array.toList_inj.1
        simp [ByteArray.data_extract, List.map_take]
    · simp at h
  · simp at h

theorem copyA_ok (hr : Rel φ s w) {t t2 : TypeId} {x y v : AV} {xv yv : Value} {s' : St} (hx : VR φ x xv) (hy : VR φ y yv) (h : copyA D s t x y = some (v, s')) (ty : TypeId) :
    ∃ u w', VR φ v u ∧ (Builtin.copy_ #[t, t2] ty #[xv, yv]).run P w = .ok u w' ∧ Stp φ s w φ s' w' ∧ Rel φ s' w' := by
  unfold copyA at h
  split at h
  · rename_i i hi
    split at h
    · rename_i e hid
      obtain ⟨de, _, hde, hu⟩ := run_under hD hi w
      rw [hid] at hde
      obtain rfl : de = .slice e := by cases de <;> simp [tdOf] at hde; rw [hde]
      split at h
      · rename_i ei hei
        have hsz := run_size hD hei w
        split at h
        · rename_i n m hn hm
          have hlen := avLen_ok (P := P) hy hm w
          split at h
          · rename_i new hf
            obtain ⟨us, f1, f2⟩ := firstA_ok (P := P) hr hy hf
            split at h
            · simp at h
              obtain ⟨rfl, rfl⟩ := h
              cases hx
              simp [avLen] at hn
              subst hn
              simp only [Nat.min_zero] at f2
              refine ⟨_, w, .int _ _, ?_, Stp.refl _ _ _, hr⟩
              simp [Builtin.copy_, hu, hsz, hlen, f2, goInt]
            · rename_i b o _ _
              split at h
              · rename_i s1 hw
                simp at h
                obtain ⟨rfl, rfl⟩ := h
                simp [avLen] at hn
                cases hn
                cases hx with
                | slice hrb hc _ _ hle =>
                  obtain ⟨w', w1, w2, w3⟩ := writeAll_ok (P := P) hr hw f1 hrb
                  refine ⟨_, w', .int _ _, ?_, w2, w3⟩
                  have hmin : Nat.min m n = min m n := rfl
                  simp [Builtin.copy_, hu, hsz, hlen, hmin, f2, goInt, w1]
              · simp at h
            · simp at h
          · simp at h
        · simp at h
      · simp at h
    · simp at h
  · simp at h

theorem clearA_ok (hr : Rel φ s w) {t : TypeId} {x v : AV} {xv : Value} {s' : St} (hx : VR φ x xv) (h : clearA D s t x = some (v, s')) (ty : TypeId) :
    ∃ u w', VR φ v u ∧ (Builtin.clear_ #[t] ty #[xv]).run P w = .ok u w' ∧ Stp φ s w φ s' w' ∧ Rel φ s' w' := by
  unfold clearA at h
  split at h
  · rename_i i b o n cp hi
    obtain ⟨de, _, hde, hu⟩ := run_under hD hi w
    split at h
    · rename_i e hid
      rw [hid] at hde
      obtain rfl : de = .slice e := by cases de <;> simp [tdOf] at hde; rw [hde]
      split at h
      · rename_i ei hei
        split at h
        · rename_i z hz
          split at h
          · rename_i s1 hw
            simp at h
            obtain ⟨rfl, rfl⟩ := h
            cases hx with
            | slice hrb hc _ _ hle =>
              obtain ⟨zv, z1, z2⟩ := run_zero hD hei hz w
              have hzc := (constAV_ok (φ := φ) z2).cells
              obtain ⟨w', w1, w2, w3⟩ := writeAll_ok (P := P) hr hw (zeros_ok hzc (n + 1)) hrb
              have hzero : (Builtin.zeroCells zv.cells (n + 1)).toList = zerosV zv.cells.toList (n + 1) := by
                have := range_map_zeros zv.cells.toList (n + 1) zv.cells.size (by simp)
                have e : Builtin.zeroCells zv.cells (n + 1) = (zerosV zv.cells.toList (n + 1)).toArray := by simpa [Builtin.zeroCells] using this
                rw [e]
              refine ⟨_, w', .tuple .nil, ?_, w2, w3⟩
              simp [Builtin.clear_, hu, z1, hzero, w1]
          · simp at h
        · simp at h
      · simp at h
    · simp at h
  · rename_i i b o cp hi
    obtain ⟨de, _, hde, hu⟩ := run_under hD hi w
    simp at h
    obtain ⟨rfl, rfl⟩ := h
    cases hx
    exact ⟨_, w, .tuple .nil, by simp [Builtin.clear_, hu], Stp.refl _ _ _, hr⟩
  · rename_i i hi
    obtain ⟨de, _, hde, hu⟩ := run_under hD hi w
    simp at h
    obtain ⟨rfl, rfl⟩ := h
    cases hx
    exact ⟨_, w, .tuple .nil, by simp [Builtin.clear_, hu], Stp.refl _ _ _, hr⟩
  · rename_i i hi
    obtain ⟨de, _, hde, hu⟩ := run_under hD hi w
    simp at h
    obtain ⟨rfl, rfl⟩ := h
    cases hx
    exact ⟨_, w, .tuple .nil, by simp [Builtin.clear_, hu], Stp.refl _ _ _, hr⟩
  · rename_i i b hi
    obtain ⟨de, _, hde, hu⟩ := run_under hD hi w
    split at h
    · rename_i es clock hb
      simp at h
      obtain ⟨rfl, rfl⟩ := h
      cases hx with
      | map hrb =>
        obtain ⟨fs, g1, g2⟩ := hr.map hb hrb
        obtain ⟨w', w1, w2, w3⟩ := hr.put_map (P := P) hb hrb (es' := []) (clock' := clock) (fs' := #[]) trivial
        refine ⟨_, w', .tuple .nil, ?_, w2, w3⟩
        simp [Builtin.clear_, hu, run_getObj_of g1, w1]
    · simp at h
  · simp at h

end
end Go.Eng
