/-
  The abstract interpreter, its soundness: zeros, append.
-/
import Derived.Test.YtabjigkabgecaaaGreatDoorEng12
namespace Go.Eng
variable {P : Program} {D : Tab} {φ : Phi} {s : St} {w : World} {T : PT AV} {ρ : Operand → Value}

/-! ### Zeros -/
def zerosV (us : List Value) : Nat → List Value
  | 0 => []
  | n + 1 => us ++ zerosV us n

theorem zerosV_length (us : List Value) : ∀ n, (zerosV us n).length = n * us.length
  | 0 => by simp [zerosV]
  | n + 1 => by simp [zerosV, zerosV_length us n, Nat.succ_mul, Nat.add_comm]

theorem zerosV_get (us : List Value) : ∀ (n i : Nat), i < n * us.length → (zerosV us n)[i]? = us[i % us.length]?
  | 0, i, h => by simp at h
  | n + 1, i, h => by
    simp only [zerosV]
    by_cases hi : i < us.length
    · rw [List.getElem?_append_left hi, Nat.mod_eq_of_lt hi]
    · have hle : us.length ≤ i := by omega
      rw [List.getElem?_append_right hle, zerosV_get us n (i - us.length) (by rw [Nat.succ_mul] at h; omega)]
      congr 1
      rw [Nat.mod_eq_sub_mod hle]

theorem zeros_list (us : List Value) (n : Nat) : (List.range (n * us.length)).map (fun i => us.toArray[i % us.length]!) = zerosV us n := by
  apply List.ext_getElem?
  intro i
  by_cases hi : i < n * us.length
  · have hpos : 0 < us.length := by
      rcases Nat.eq_zero_or_pos us.length with h | h
      · rw [h] at hi; simp at hi
      · exact h
    have hlt : i % us.length < us.length := Nat.mod_lt _ hpos
    rw [zerosV_get us n i hi]
    simp [hi, hlt]
  · rw [List.getElem?_eq_none (by simp; omega), List.getElem?_eq_none (by rw [zerosV_length]; omega)]

theorem zeros_ok : ∀ {z : List AV} {us : List Value}, VRs φ z us → ∀ n, VRs φ (zeros z n) (zerosV us n)
  | _, _, _, 0 => .nil
  | _, _, h, n + 1 => h.append (zeros_ok h n)

theorem range_map_zeros (us : List Value) (n k : Nat) (hk : us.length = k) : (Array.range (n * k)).map (fun i => us.toArray[i % us.toArray.size]!) = (zerosV us n).toArray := by
  subst hk
  have h := zeros_list us n
  apply Array.toList_inj.1
  simp only [Array.toList_map, Array.toList_range, List.size_toArray]
  exact h

/-! ### What is appended -/
theorem sliceCells_ok (h : Rel φ s w) {size : Nat} {x : AV} {xv : Value} {l : List AV} (hx : VR φ x xv) (hl : sliceCells s.h size x = some l) :
    ∃ n us, avLen x = some n ∧ VRs φ l us ∧ us.length = n * size ∧ (Builtin.lenOf xv).run P w = .ok n w ∧ (Builtin.firstCells size n xv).run P w = .ok us.toArray w := by
  unfold sliceCells at hl
  split at hl
  · simp at hl; subst hl; cases hx; exact ⟨0, [], rfl, .nil, by simp, by simp [Builtin.lenOf], by simp [Builtin.firstCells]⟩
  · simp at hl; subst hl; cases hx; exact ⟨0, [], rfl, .nil, by simp, by simp [Builtin.lenOf], by simp [Builtin.firstCells, loadCells, loadCellsFrom]⟩
  · rename_i b o len cp
    split at hl
    · rename_i c n tl hb
      split at hl
      · rename_i hn
        cases hx with
        | slice hr hc =>
          obtain ⟨us, h1, h2, h3⟩ := read_cells (P := P) h hb (ble_true hn) hl hr
          exact ⟨len, us, rfl, h1, h2, by simp [Builtin.lenOf], by simp [Builtin.firstCells, h3]⟩
      · simp at hl
    · simp at hl
  · rename_i t
    split at hl
    · rename_i hs
      have := beq_true hs
      subst this
      simp at hl
      subst hl
      cases hx
      refine ⟨t.size, t.data.toList.map fun x => .int .u8 x.toNat, rfl, ?_, by rw [List.length_map, Nat.mul_one]; rfl, by simp [Builtin.lenOf], ?_⟩
      · induction t.data.toList with
        | nil => exact .nil
        | cons a r ih => exact .cons (.int _ _) ih
      · simp only [Builtin.firstCells, Sem.run_pure]
        congr 1
        have : t.extract 0 t.size = t := ByteArray.extract_zero_size
        rw [this]
        obtain ⟨⟨l⟩⟩ := t
        simp
    · simp at hl
  · simp at hl

theorem growBy_le (newLen : Nat) : ∀ (k c B : Nat), c ≤ B → newLen + (newLen + 768) / 4 ≤ B → Builtin.growBy newLen k c ≤ B
  | 0, c, B, h, _ => by simpa [Builtin.growBy] using h
  | k + 1, c, B, h, hb => by
    simp only [Builtin.growBy]
    split
    · exact h
    · exact growBy_le newLen k _ B (by omega) hb

theorem nextslicecap_le {need cap : Nat} (h : cap < need) : Builtin.nextslicecap need cap ≤ 3 * need + 3000 := by
  unfold Builtin.nextslicecap
  split
  · omega
  · split
    · omega
    · exact growBy_le need 4 cap _ (by omega) (by omega)

theorem choose_cap (need old : Nat) (e : TypeId) (w : World) : ∃ c d, need ≤ c ∧ (choose (.appendCap need old e)).run P w = .ok c { w with drawn := d } :=
  ⟨need + w.tape w.drawn (.appendCap need old e) % (2 ^ 63 - need), w.drawn + 1, by omega, by simp [Question.forced, Question.cut]⟩

def Phi.setC (φ : Phi) (k c : Nat) : Phi := { φ with cap := fun i => if i = k then some c else φ.cap i }

theorem Phi.le_setC {φ : Phi} {k c : Nat} (h : φ.cap k = none) : φ.le (φ.setC k c) :=
  ⟨fun _ _ h => h, fun j y hc => by
    have : j ≠ k := by rintro rfl; rw [h] at hc; simp at hc
    simp [Phi.setC, this, hc], fun _ _ h => h, rfl⟩

/-- Capacities that nothing bears yet. -/
theorem Rel.setC (h : Rel φ s w) (c : Nat) : Rel (φ.setC s.nc c) { s with nc := s.nc + 1 } w ∧ Stp φ s w (φ.setC s.nc c) { s with nc := s.nc + 1 } w := by
  have hle : φ.le (φ.setC s.nc c) := Phi.le_setC (h.freshc _ (Nat.le_refl _))
  constructor
  · constructor
    · intro b o hb
      obtain ⟨r, sh, ro, h1, h2, h3⟩ := h.obj b o hb
      exact ⟨r, sh, ro, h1, h2, h3.mono hle⟩
    · exact h.inj
    · exact h.fresh
    · intro k hk
      have : k ≠ s.nc := by simp at hk; omega
      simp [Phi.setC, this, h.freshc k (by simp at hk; omega)]
    · exact h.glob
    · exact h.gnx
    · exact h.facts
  · exact ⟨hle, fun b r sh hb hr => .inr ⟨b, sh, hb, hr⟩, fun _ _ _ => rfl, Nat.le_refl _, rfl, rfl, rfl, Nat.le_refl _, by simp, fun _ _ => rfl⟩

/-- Blocks that are no more spoken of. -/
theorem Rel.less (h : Rel φ s w) {h' : PT AObj} (hl : ∀ b o, h'.get b = some o → s.h.get b = some o) : Rel φ { s with h := h' } w ∧ Stp φ s w φ { s with h := h' } w := by
  have hs : ∀ b, (h'.get b).isSome = true → (s.h.get b).isSome = true := fun b hb => by
    obtain ⟨o, ho⟩ := Option.isSome_iff_exists.1 hb
    rw [hl b o ho]; rfl
  exact ⟨⟨fun b o hb => h.obj b o (hl b o hb), fun b b' r sh sh' hb hb' => h.inj b b' r sh sh' (hs b hb) (hs b' hb'), h.fresh, h.freshc, h.glob, h.gnx, h.facts⟩,
    ⟨Phi.le.rfl' φ, fun b r sh hb hr => .inr ⟨b, sh, hs b hb, hr⟩, fun _ _ _ => rfl, Nat.le_refl _, rfl, rfl, rfl, Nat.le_refl _, Nat.le_refl _, fun _ _ => rfl⟩⟩

/-- Onto a block of one's own. -/
theorem grow_new (h : Rel φ s w) {h' : PT AObj} (hl : ∀ b o, h'.get b = some o → s.h.get b = some o) {size need c : Nat} {cells : List AV} {us rest : List Value} (hv : VRs φ cells us) (hul : us.length = need * size) (hrest : rest.length = (c - need) * size) (hc : need ≤ c) (e : TypeId) :
    ∃ φ' w', (newRow e (us ++ rest).toArray).run P w = .ok ⟨w.heap.size, 0, none⟩ w' ∧ Stp φ s w φ' (growA s h' size need cells).2 w' ∧ Rel φ' (growA s h' size need cells).2 w' ∧ VR φ' (growA s h' size need cells).1 (.slice (some ⟨w.heap.size, 0, none⟩) need c) := by
  obtain ⟨h1, h2⟩ := h.less hl
  obtain ⟨h3, h4⟩ := h1.setC c
  have hfr := h3.fresh s.nx (Nat.le_refl _)
  have hle : (φ.setC s.nc c).le ((φ.setC s.nc c).setB s.nx (w.heap.size, 0)) := Phi.le_setB hfr
  have hle0 := h4.ext
  have hv' : VRs ((φ.setC s.nc c).setB s.nx (w.heap.size, 0)) cells us := (hv.mono hle0).mono hle
  have hcells : CellsR ((φ.setC s.nc c).setB s.nx (w.heap.size, 0)) 0 (PT.setAll .nil 0 cells) (need * size) (us ++ rest).toArray := by
    refine ⟨by simp; omega, fun i hi => ?_⟩
    obtain ⟨u, g1, g2⟩ := hv'.get i _ (List.getElem?_eq_getElem (by rw [hv.length, hul]; exact hi))
    refine ⟨_, u, ?_, ?_, g2⟩
    · rw [PT.get_setAll, if_pos (by have := hv.length; omega)]
      simp only [Nat.sub_zero]
      exact List.getElem?_eq_getElem (by have := hv.length; omega)
    · simp only [Nat.zero_add, List.getElem?_toArray]
      rw [List.getElem?_append_left (by omega)]
      exact g1
  have hsz : (us ++ rest).toArray.size = 0 + c * size := by
    simp only [List.size_toArray, List.length_append, hul, hrest, Nat.zero_add, ← Nat.add_mul]
    congr 1
    omega
  have := h3.put_new (b := s.nx) (o := .cells (PT.setAll .nil 0 cells) (need * size) (some (s.nc, size))) (ro := .cells (us ++ rest).toArray e (0, 0)) hfr rfl (s' := (growA s h' size need cells).2) rfl (by simp [growA]) (by simp [growA]) rfl
    (.tail hcells (by simp [Phi.setB, Phi.setC]) hsz (.inl rfl))
  refine ⟨_, _, by simp [newRow], (h2.trans h4).trans this.2, this.1, ?_⟩
  have hb : ((φ.setC s.nc c).setB s.nx (w.heap.size, 0)).blk s.nx = some (w.heap.size, 0) := by simp [Phi.setB]
  have hcp : CR ((φ.setC s.nc c).setB s.nx (w.heap.size, 0)) (.var s.nc 0) (c - 0) := .var (by simp [Phi.setB, Phi.setC])
  simpa [growA] using VR.slice hb hcp 0 need (by omega)

/-- Onto the block that it lies in, where there is room. -/
theorem grow_old (h : Rel φ s w) {b o n m k sub size cp r sh nn : Nat} {cc : PT AV} {old new : List AV} {us : List Value} (hb : s.h.get b = some (.cells cc nn (some (k, size)))) (ho : o = sub * size) (hr : φ.blk b = some (r, sh)) (hk : φ.cap k = some cp)
    (hroom : n + m ≤ cp - sub) (hm : 0 < m) (hold : cc.getAll o (n * size) = some old) (hon : o + n * size ≤ nn) (h1 : ones new = true) (hv : VRs φ new us) (hul : us.length = m * size) :
    ∃ φ' w', (storeCells ⟨r, sh + (o + n * size), none⟩ us 0).run P w = .ok () w' ∧ Stp φ s w φ' (growA s (s.h.del b) size (n + m) (old ++ new)).2 w' ∧ Rel φ' (growA s (s.h.del b) size (n + m) (old ++ new)).2 w' ∧
      VR φ' (growA s (s.h.del b) size (n + m) (old ++ new)).1 (.slice (some ⟨r, sh + o, none⟩) (n + m) (cp - sub)) := by
  obtain ⟨r', sh', arr, el, fz, g1, g2, g3, g4⟩ := h.cells hb
  rw [hr] at g1
  simp at g1
  obtain ⟨rfl, rfl⟩ := g1
  rcases g4 with ⟨g4, _⟩ | ⟨k', z, cp', g5, g6, g7, g8⟩
  · simp at g4
  · simp at g5
    obtain ⟨rfl, rfl⟩ := g5
    rw [hk] at g6
    simp at g6
    subst g6
    obtain ⟨d, rfl⟩ : ∃ d, cp = sub + d := ⟨cp - sub, by omega⟩
    have hd : sub + d - sub = d := by omega
    rw [hd] at hroom ⊢
    have hlt : r < w.heap.size := (Array.getElem?_eq_some_iff.1 g2).1
    have hmul : (sub + d) * size = sub * size + d * size := Nat.add_mul _ _ _
    have hmul2 : (n + m) * size = n * size + m * size := Nat.add_mul _ _ _
    have hdm : (n + m) * size ≤ d * size := Nat.mul_le_mul_right _ hroom
    have hfz : fz = (0, 0) ∨ arr.size ≤ fz.1 := by
      rcases g8 with g8 | g8
      · exact .inl g8
      · exact .inr g8.2
    have hrun := storeCells_run (P := P) r (sh + (o + n * size)) el fz us 0 arr w g2 hfz (by omega) (ones_ok h1 hv)
    rw [setRow_eq g2] at hrun
    simp only [Nat.add_zero] at hrun
    generalize harr : (arr.toList.take (sh + (o + n * size)) ++ us ++ arr.toList.drop (sh + (o + n * size) + us.length)).toArray = arr' at hrun
    have hsz' : arr'.size = arr.size := by rw [← harr]; simp; omega
    have hget : ∀ i, arr'[i]? = if sh + (o + n * size) ≤ i ∧ i < sh + (o + n * size) + us.length then us[i - (sh + (o + n * size))]? else arr[i]? := by
      intro i
      rw [← harr]
      simp only [List.getElem?_toArray]
      by_cases hin : sh + (o + n * size) ≤ i ∧ i < sh + (o + n * size) + us.length
      · rw [if_pos hin, List.append_assoc, List.getElem?_append_right (by simp; omega), List.getElem?_append_left (by simp; omega)]
        congr 1
        simp; omega
      · rw [if_neg hin]
        by_cases hlo : i < sh + (o + n * size)
        · rw [List.append_assoc, List.getElem?_append_left (by simp; omega), List.getElem?_take_of_lt hlo]
          simp
        · rw [List.getElem?_append_right (by simp; omega)]
          simp only [List.length_append, List.length_take, Array.length_toList, List.getElem?_drop]
          rw [show sh + (o + n * size) + us.length + (i - (min (sh + (o + n * size)) arr.size + us.length)) = i by omega]
          simp
    obtain ⟨l1, l2, l3⟩ := g3.list (n * size) o old hon hold
    have hnb : s.nx ≠ b := by
      have := h.dom_lt (b := b) (by simp [hb])
      omega
    have hfr := h.fresh s.nx (Nat.le_refl _)
    let ψ : Phi := (φ.setC s.nc d).setB s.nx (r, sh + o)
    have hle : φ.le ψ := (Phi.le_setC (h.freshc _ (Nat.le_refl _))).trans (Phi.le_setB (φ := φ.setC s.nc d) hfr)
    have hcells : CellsR ψ (sh + o) (PT.setAll .nil 0 (old ++ new)) ((n + m) * size) arr' := by
      refine ⟨by rw [hsz', g7]; omega, fun i hi => ?_⟩
      have hlold : old.length = n * size := by rw [l2.length, l3.1]
      have hlnew : new.length = m * size := by rw [hv.length, hul]
      rw [PT.get_setAll, if_pos (by simp; omega)]
      simp only [Nat.sub_zero]
      by_cases hio : i < n * size
      · obtain ⟨u, e1, e2⟩ := l2.get i _ (List.getElem?_eq_getElem (by omega))
        refine ⟨_, u, ?_, ?_, e2.mono hle⟩
        · rw [List.getElem?_append_left (by omega)]; exact List.getElem?_eq_getElem (by omega)
        · rw [hget, if_neg (by omega)]
          exact l3.2 i u e1
      · obtain ⟨u, e1, e2⟩ := hv.get (i - n * size) _ (List.getElem?_eq_getElem (by omega))
        refine ⟨_, u, ?_, ?_, e2.mono hle⟩
        · rw [List.getElem?_append_right (by omega), hlold]; exact List.getElem?_eq_getElem (by omega)
        · rw [hget, if_pos (by omega)]
          rw [show sh + o + i - (sh + (o + n * size)) = i - n * size by omega]
          exact e1
    have hψ : ∀ c, c ≠ s.nx → ψ.blk c = φ.blk c := fun c hc => by simp [ψ, Phi.setB, Phi.setC, hc]
    have hdom : ∀ c, c ≠ s.nx → (((s.h.del b).set s.nx (.cells (PT.setAll .nil 0 (old ++ new)) ((n + m) * size) (some (s.nc, size)))).get c).isSome = true → c ≠ b ∧ (s.h.get c).isSome = true := by
      intro c hc hs
      rw [PT.get_set, if_neg hc, PT.get_del] at hs
      by_cases e : c = b
      · rw [if_pos e] at hs; simp at hs
      · rw [if_neg e] at hs; exact ⟨e, hs⟩
    refine ⟨ψ, _, hrun, ?_, ?_, ?_⟩
    · constructor
      · exact hle
      · intro c r1 s1 hc h1'
        by_cases e : c = s.nx
        · subst e
          simp [ψ, Phi.setB] at h1'
          exact .inr ⟨b, sh, by simp [hb], by rw [hr, h1'.1]⟩
        · rw [hψ c e] at h1'
          exact .inr ⟨c, s1, (hdom c e hc).2, h1'⟩
      · intro r1 hr1 hn1
        have : r ≠ r1 := by rintro rfl; exact hn1 b sh (by simp [hb]) hr
        simp [Array.getElem?_setIfInBounds_ne this]
      · simp
      · rfl
      · rfl
      · rfl
      · simp [growA]
      · simp [growA]
      · exact fun c hc => hψ c (by omega)
    · constructor
      · intro c x hc
        by_cases e : c = s.nx
        · subst e
          simp [growA] at hc
          subst hc
          refine ⟨r, sh + o, .cells arr' el fz, by simp [ψ, Phi.setB], by simp [hlt], .tail (cp := d) hcells (by simp [ψ, Phi.setB, Phi.setC]) ?_ ?_⟩
          · rw [hsz', g7]; omega
          · rw [hsz']; exact g8
        · have hc' : (s.h.del b).get c = some x := by simpa [growA, PT.get_set, e] using hc
          rw [PT.get_del] at hc'
          by_cases eb : c = b
          · rw [if_pos eb] at hc'; simp at hc'
          · rw [if_neg eb] at hc'
            obtain ⟨r1, s1, ro, e1, e2, e3⟩ := h.obj c x hc'
            refine ⟨r1, s1, ro, by rw [hψ c e]; exact e1, ?_, e3.mono hle⟩
            have : r ≠ r1 := by
              rintro rfl
              exact eb (h.inj c b r s1 sh (by simp [hc']) (by simp [hb]) e1 hr)
            simp only [Array.getElem?_setIfInBounds_ne this]; exact e2
      · intro c c' r1 s1 s2 hc hc' h1' h2'
        simp only [growA] at hc hc'
        by_cases e : c = s.nx
        · by_cases e' : c' = s.nx
          · rw [e, e']
          · exfalso
            subst e
            simp [ψ, Phi.setB] at h1'
            rw [hψ c' e'] at h2'
            obtain ⟨d1, d2⟩ := hdom c' e' hc'
            rw [← h1'.1] at h2'
            exact d1 (h.inj c' b r s2 sh d2 (by simp [hb]) h2' hr)
        · by_cases e' : c' = s.nx
          · exfalso
            subst e'
            simp [ψ, Phi.setB] at h2'
            rw [hψ c e] at h1'
            obtain ⟨d1, d2⟩ := hdom c e hc
            rw [← h2'.1] at h1'
            exact d1 (h.inj c b r s1 sh d2 (by simp [hb]) h1' hr)
          · rw [hψ c e] at h1'
            rw [hψ c' e'] at h2'
            exact h.inj c c' r1 s1 s2 (hdom c e hc).2 (hdom c' e' hc').2 h1' h2'
      · intro c hc
        have : c ≠ s.nx := by simp [growA] at hc; omega
        rw [hψ c this]
        exact h.fresh c (by simp [growA] at hc; omega)
      · intro c hc
        have : c ≠ s.nc := by simp [growA] at hc; omega
        simp [ψ, Phi.setB, Phi.setC, this, h.freshc c (by simp [growA] at hc; omega)]
      · intro g hg
        have : g ≠ s.nx := by have := h.gnx; omega
        rw [hψ g this]; exact h.glob g hg
      · have := h.gnx
        simp [growA]; omega
      · exact h.facts
    · have hbk : ψ.blk s.nx = some (r, sh + o) := by simp [ψ, Phi.setB]
      have hcp : CR ψ (.var s.nc 0) (d - 0) := .var (by simp [ψ, Phi.setB, Phi.setC])
      simpa [growA] using VR.slice hbk hcp 0 (n + m) (by omega)

end Go.Eng
