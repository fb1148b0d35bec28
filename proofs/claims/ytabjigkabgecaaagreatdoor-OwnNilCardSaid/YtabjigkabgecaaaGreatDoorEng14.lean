/-
  The abstract interpreter, its soundness: append, slices, copy.
-/
import Derived.Test.YtabjigkabgecaaaGreatDoorEng13
namespace Go.Eng
variable {P : Program} {D : Tab} {φ : Phi} {s : St} {w : World} {T : PT AV} {ρ : Operand → Value}

section
variable (hD : TabOk P D)
include hD

theorem seq_ok {t : TypeId} {i : TyI} (hi : D.ty.get t = some i) (hn : isSeq i.d = true) (w : World) : ∃ d, (∀ w, (underlying t).run P w = .ok d w) ∧ ((∃ e, d = .slice e) ∨ d = .string) := by
  obtain ⟨d, hq, hd, hu⟩ := run_under hD hi w
  refine ⟨d, fun w => by simp [underlying, hq], ?_⟩
  rw [hd] at hn
  cases d <;> simp [tdOf, isSeq] at hn
  · exact .inr rfl
  · exact .inl ⟨_, rfl⟩

theorem typeInfo_any {t : TypeId} {i : TyI} (hi : D.ty.get t = some i) (w w' : World) {ti : TypeInfo} (h : (typeInfo t).run P w = .ok ti w) : (typeInfo t).run P w' = .ok ti w' := by
  obtain ⟨ti', h1, _, _, _, h2⟩ := run_info hD hi w
  rw [h] at h2
  simp at h2
  subst h2
  simp [typeInfo, h1]

theorem append_grow (hr : Rel φ s w) {sT xT ty e : TypeId} {dx : TypeDesc} {size bytes n m c : Nat} {ei : TyI} {z : AV} {x y : AV} {base : Option Addr} {yv : Value} {old new : List AV} (hus : ∀ w, (underlying sT).run P w = .ok (.slice e) w) (hux : ∀ w, (underlying xT).run P w = .ok dx w) (hxm : (∃ e, dx = .slice e) ∨ dx = .string)
    (hei : D.ty.get e = some ei) (hz : ei.zero = some z) (hzl : z.cells.length = ei.size) (hes : ei.size = size) (heb : ei.bytes = bytes)
    (hx : VR φ x (.slice base n c)) (hy : VR φ y yv) (hn : avLen x = some n) (hm : avLen y = some m) (hold : sliceCells s.h size x = some old) (hnew : sliceCells s.h size y = some new) (hc : c < n + m) (hb1 : (3 * (n + m) + 3000) * bytes ≤ 2 ^ 48) (hb2 : n + m ≤ 2 ^ 48)
    {h' : PT AObj} (hl : ∀ b o, h'.get b = some o → s.h.get b = some o) :
    ∃ φ' u w', VR φ' (growA s h' size (n + m) (old ++ new)).1 u ∧ (Builtin.append_ #[sT, xT] ty #[.slice base n c, yv]).run P w = .ok u w' ∧ Stp φ s w φ' (growA s h' size (n + m) (old ++ new)).2 w' ∧ Rel φ' (growA s h' size (n + m) (old ++ new)).2 w' := by
  subst hes; subst heb
  obtain ⟨nc, d, hc1, hc2⟩ := choose_cap (P := P) (n + m) c e w
  have hrd := hr.drawn d
  obtain ⟨n', us, a1, a2, a3, a4, a5⟩ := sliceCells_ok (P := P) hrd hx hold
  obtain ⟨m', vs, b1, b2, b3, b4, b5⟩ := sliceCells_ok (P := P) hrd hy hnew
  obtain ⟨m'', vs', b1', _, _, b4', _⟩ := sliceCells_ok (P := P) hr hy hnew
  rw [hn] at a1; simp at a1; subst a1
  rw [hm] at b1; simp at b1; subst b1
  rw [hm] at b1'; simp at b1'; subst b1'
  obtain ⟨ti, t1, t2, t3, t4, t5⟩ := run_info hD hei w
  obtain ⟨zv, z1, z2⟩ := run_zero hD hei hz { w with drawn := d }
  have hzc := (constAV_ok (φ := φ) z2).cells
  have hzs : zv.cells.toList.length = ei.size := by rw [← hzc.length]; exact hzl
  have hrest : Builtin.zeroCells zv.cells (nc - (n + m)) = (zerosV zv.cells.toList (nc - (n + m))).toArray := by
    have := range_map_zeros zv.cells.toList (nc - (n + m)) zv.cells.size (by simp)
    simpa [Builtin.zeroCells] using this
  have hlen : (us ++ vs).length = (n + m) * ei.size := by rw [List.length_append, a3, b3, Nat.add_mul]
  have hrl : (zerosV zv.cells.toList (nc - (n + m))).length = (nc - (n + m)) * ei.size := by rw [zerosV_length, hzs]
  obtain ⟨φ', w', g1, g2, g3, g4⟩ := grow_new (P := P) hrd hl (cells := old ++ new) (us := us ++ vs) (a2.append b2) hlen hrl hc1 e
  refine ⟨φ', _, w', g4, ?_, (Stp.drawn φ s w d).trans g2, g3⟩
  have hcapb : ¬ Builtin.nextslicecap (n + m) c * ti.bytes > 2 ^ 48 := by
    have := Nat.mul_le_mul_right ti.bytes (nextslicecap_le hc)
    rw [t3] at hb1
    omega
  have hbig : ¬ (((n + m : Nat) : Int) > IntKind.i64.max ∧ (False ∨ ti.bytes = 0)) := by
    intro hh
    have := hh.1
    simp [IntKind.max, IntKind.signed, IntKind.bits] at this
    omega
  have hfit : ¬ n + m ≤ c := by omega
  have hz0 : (zeroValue e).run P { w with drawn := d } = .ok zv { w with drawn := d } := z1
  rcases hxm with ⟨e', rfl⟩ | rfl
  all_goals
    simp only [Builtin.append_, List.getElem?_toArray, List.getElem?_cons_zero, List.getElem?_cons_succ, Sem.run_bind, hus, hux, run_size hD hei, Sem.run_pure, Result.andThen_ok, Bool.false_eq_true, if_false, b4', hfit, t5, hbig, hcapb, hc2, run_askRoom, a5, Bool.not_false, if_true, b5, hz0, hrest, typeInfo_any hD hei w _ t5]
    have hcat : us.toArray ++ vs.toArray ++ (zerosV zv.cells.toList (nc - (n + m))).toArray = (us ++ vs ++ zerosV zv.cells.toList (nc - (n + m))).toArray := by simp
    simp only [hcat, g1, Result.andThen_ok]

/-- Into a slice that has room. -/
theorem append_fits {s' : St} (hr : Rel φ s w) {sT xT ty e : TypeId} {dx : TypeDesc} {size n m c : Nat} {ei : TyI} {b o r sh : Nat} {y : AV} {yv : Value} {new : List AV} (hus : ∀ w, (underlying sT).run P w = .ok (.slice e) w) (hux : ∀ w, (underlying xT).run P w = .ok dx w) (hxm : (∃ e, dx = .slice e) ∨ dx = .string)
    (hei : D.ty.get e = some ei) (hes : ei.size = size) (hrb : φ.blk b = some (r, sh)) (hy : VR φ y yv) (hm : avLen y = some m) (hnew : sliceCells s.h size y = some new) (hc : n + m ≤ c) (hw : writeAll s b (o + n * size) new = some s') :
    ∃ w', (Builtin.append_ #[sT, xT] ty #[.slice (some ⟨r, sh + o, none⟩) n c, yv]).run P w = .ok (.slice (some ⟨r, sh + o, none⟩) (n + m) c) w' ∧ Stp φ s w φ s' w' ∧ Rel φ s' w' := by
  subst hes
  obtain ⟨m', vs, b1, b2, b3, b4, b5⟩ := sliceCells_ok (P := P) hr hy hnew
  rw [hm] at b1; simp at b1; subst b1
  obtain ⟨w', w1, w2, w3⟩ := writeAll_ok (P := P) hr hw b2 hrb
  refine ⟨w', ?_, w2, w3⟩
  have hadd : (⟨r, sh + o, none⟩ : Addr).add (n * ei.size) = ⟨r, sh + (o + n * ei.size), none⟩ := by unfold Addr.add; split <;> simp_all [Nat.add_assoc]
  rcases hxm with ⟨e', rfl⟩ | rfl
  all_goals
    simp only [Builtin.append_, List.getElem?_toArray, List.getElem?_cons_zero, List.getElem?_cons_succ, Sem.run_bind, hus, hux, run_size hD hei, Sem.run_pure, Result.andThen_ok, Bool.false_eq_true, if_false, b4, hc, if_true, b5, Bool.not_false, hadd, w1]

/-- As 'append_fits', the cells stored as they are. -/
theorem append_room {sT xT ty e : TypeId} {dx : TypeDesc} {n m c : Nat} {ei : TyI} {a : Addr} {yv : Value} {us : List Value} {w' : World} (hus : ∀ w, (underlying sT).run P w = .ok (.slice e) w) (hux : ∀ w, (underlying xT).run P w = .ok dx w) (hxm : (∃ e, dx = .slice e) ∨ dx = .string)
    (hei : D.ty.get e = some ei) (hl : (Builtin.lenOf yv).run P w = .ok m w) (hf : (Builtin.firstCells ei.size m yv).run P w = .ok us.toArray w) (hc : n + m ≤ c) (hs : (storeCells (a.add (n * ei.size)) us 0).run P w = .ok () w') :
    (Builtin.append_ #[sT, xT] ty #[.slice (some a) n c, yv]).run P w = .ok (.slice (some a) (n + m) c) w' := by
  rcases hxm with ⟨e', rfl⟩ | rfl
  all_goals
    simp only [Builtin.append_, List.getElem?_toArray, List.getElem?_cons_zero, List.getElem?_cons_succ, Sem.run_bind, hus, hux, run_size hD hei, Sem.run_pure, Result.andThen_ok, Bool.false_eq_true, if_false, hl, hc, if_true, hf, Bool.not_false, hs]

theorem append_none {sT xT ty e : TypeId} {dx : TypeDesc} {c n : Nat} {ei : TyI} {a : Option Addr} {yv : Value} (hus : ∀ w, (underlying sT).run P w = .ok (.slice e) w) (hux : ∀ w, (underlying xT).run P w = .ok dx w) (hxm : (∃ e, dx = .slice e) ∨ dx = .string)
    (hei : D.ty.get e = some ei) (hl : (Builtin.lenOf yv).run P w = .ok 0 w) (hf : (Builtin.firstCells ei.size 0 yv).run P w = .ok #[] w) (hc : n ≤ c) :
    (Builtin.append_ #[sT, xT] ty #[.slice a n c, yv]).run P w = .ok (.slice a n c) w := by
  have hc' : n + 0 ≤ c := hc
  rcases hxm with ⟨e', rfl⟩ | rfl
  all_goals
    simp only [Builtin.append_, List.getElem?_toArray, List.getElem?_cons_zero, List.getElem?_cons_succ, Sem.run_bind, hus, hux, run_size hD hei, Sem.run_pure, Result.andThen_ok, Bool.false_eq_true, if_false, hl, hc', if_true, hf, Bool.not_false]
    cases a <;> simp [storeCells]

theorem appendC_ok (hr : Rel φ s w) {sT xT ty e : TypeId} {dx : TypeDesc} {n m : Nat} {ei : TyI} {z x y v : AV} {xv yv : Value} {old new : List AV} {s' : St} (hus : ∀ w, (underlying sT).run P w = .ok (.slice e) w) (hux : ∀ w, (underlying xT).run P w = .ok dx w) (hxm : (∃ e, dx = .slice e) ∨ dx = .string)
    (hei : D.ty.get e = some ei) (hz : ei.zero = some z) (hzl : z.cells.length = ei.size) (hx : VR φ x xv) (hy : VR φ y yv) (hn : avLen x = some n) (hm : avLen y = some m) (hm0 : 0 < m) (hold : sliceCells s.h ei.size x = some old) (hnew : sliceCells s.h ei.size y = some new)
    (hb1 : (3 * (n + m) + 3000) * ei.bytes ≤ 2 ^ 48) (hb2 : n + m ≤ 2 ^ 48) (h : appendC s ei.size x m old new = some (v, s')) :
    ∃ φ' u w', VR φ' v u ∧ (Builtin.append_ #[sT, xT] ty #[xv, yv]).run P w = .ok u w' ∧ Stp φ s w φ' s' w' ∧ Rel φ' s' w' := by
  unfold appendC at h
  split at h
  · simp at h
    cases hx
    simp [avLen] at hn
    subst hn
    simp [sliceCells] at hold
    subst hold
    have := append_grow hD hr (ty := ty) hus hux hxm hei hz hzl rfl rfl .nilslice hy rfl hm (old := []) (by simp [sliceCells]) hnew (c := 0) (by omega) hb1 hb2 (h' := s.h) (fun _ _ h => h)
    simp only [Nat.zero_add, List.nil_append] at this
    rw [h] at this
    simpa using this
  · simp at h
    cases hx with
    | slice0 _ a c hz0 =>
      obtain rfl := hz0 rfl
      simp [avLen] at hn
      subst hn
      simp [sliceCells] at hold
      subst hold
      have := append_grow hD hr (ty := ty) hus hux hxm hei hz hzl rfl rfl (.slice0 true a 0 hz0) hy rfl hm (old := []) (by simp [sliceCells]) hnew (c := 0) (by omega) hb1 hb2 (h' := s.h) (fun _ _ h => h)
      simp only [Nat.zero_add, List.nil_append] at this
      rw [h] at this
      simpa using this
  · rename_i b o k c
    have hkn : k = n := by simpa [avLen] using hn
    cases hkn
    cases hx with
    | slice hrb hc o n' hle =>
      cases hc
      split at h
      · rename_i hfit
        split at h
        · rename_i s1 hw
          simp at h
          obtain ⟨rfl, rfl⟩ := h
          obtain ⟨w', w1, w2, w3⟩ := append_fits hD hr (ty := ty) hus hux hxm hei rfl hrb hy hm hnew (ble_true hfit) hw
          exact ⟨φ, _, w', .slice hrb (.exact c) _ _ (ble_true hfit), w1, w2, w3⟩
        · simp at h
      · rename_i hfit
        have hlt : c < n + m := by
          rcases Nat.lt_or_ge c (n + m) with h | h
          · exact h
          · exfalso
            have : Nat.ble (n + m) c = true := by simpa [Nat.ble_eq] using h
            rw [this] at hfit
            simp at hfit
        have := append_grow hD hr (ty := ty) hus hux hxm hei hz hzl rfl rfl (.slice hrb (.exact c) _ _ hle) hy rfl hm hold hnew hlt hb1 hb2 (h' := s.h) (fun _ _ h => h)
        simp at h
        rw [h] at this
        simpa using this
  · rename_i b o k kk sub
    have hkn : k = n := by simpa [avLen] using hn
    cases hkn
    cases hx with
    | slice hrb hc o n' hle =>
      cases hc with
      | var hk =>
        rename_i r sh cp
        split at h
        · rename_i cc nn k' sz hb
          split at h
          · rename_i hcond
            simp only [Bool.and_eq_true] at hcond
            obtain ⟨⟨⟨c1, c2⟩, c3⟩, c4⟩ := hcond
            have e1 := beq_true c1
            have e2 := beq_true c2
            have e3 := beq_true c3
            subst e1
            subst e2
            simp at h
            by_cases hroom : n + m ≤ cp - sub
            · obtain ⟨m', vs, b1, b2, b3, b4, b5⟩ := sliceCells_ok (P := P) hr hy hnew
              rw [hm] at b1; simp at b1; subst b1
              have hold' : cc.getAll o (n * ei.size) = some old ∧ o + n * ei.size ≤ nn := by
                simp only [sliceCells, hb] at hold
                split at hold
                · rename_i hle'
                  exact ⟨hold, ble_true hle'⟩
                · simp at hold
              obtain ⟨φ', w', g1, g2, g3, g4⟩ := grow_old (P := P) hr hb e3 hrb hk hroom hm0 hold'.1 hold'.2 c4 b2 b3
              rw [h] at g2 g3 g4
              refine ⟨φ', _, w', g4, ?_, g2, g3⟩
              have hadd : (⟨r, sh + o, none⟩ : Addr).add (n * ei.size) = ⟨r, sh + (o + n * ei.size), none⟩ := by unfold Addr.add; split <;> simp_all [Nat.add_assoc]
              exact append_room hD hus hux hxm hei b4 b5 hroom (by rw [hadd]; exact g1)
            · have := append_grow hD hr (ty := ty) hus hux hxm hei hz hzl rfl rfl (.slice hrb (.var hk) _ _ hle) hy rfl hm hold hnew (by omega) hb1 hb2 (h' := s.h.del b) (fun c x hx => by
                rw [PT.get_del] at hx
                split at hx
                · simp at hx
                · exact hx)
              rw [h] at this
              simpa using this
          · simp at h
        · simp at h
  · simp at h

theorem appendA_ok (hr : Rel φ s w) {sT xT ty : TypeId} {x y v : AV} {xv yv : Value} {s' : St} (hx : VR φ x xv) (hy : VR φ y yv) (h : appendA D s sT xT x y = some (v, s')) :
    ∃ φ' u w', VR φ' v u ∧ (Builtin.append_ #[sT, xT] ty #[xv, yv]).run P w = .ok u w' ∧ Stp φ s w φ' s' w' ∧ Rel φ' s' w' := by
  unfold appendA at h
  split at h
  · rename_i i xi hi hxi
    split at h
    · rename_i e hid
      obtain ⟨de, hq, hde, _⟩ := run_under hD hi w
      rw [hid] at hde
      obtain rfl : de = .slice e := by cases de <;> simp [tdOf] at hde; rw [hde]
      have hus : ∀ w, (underlying sT).run P w = .ok (.slice e) w := fun w => by simp [underlying, hq]
      split at h
      · rename_i ei hei
        split at h
        · rename_i z hz
          split at h
          · rename_i hcond
            simp only [Bool.and_eq_true] at hcond
            have hzl := beq_true hcond.2
            obtain ⟨dx, hux, hxm⟩ := seq_ok hD hxi hcond.1 w
            unfold appendB at h
            split at h
            · rename_i n old m new hn hold hm hnew
              split at h
              · split at h
                · rename_i hsl
                  simp at h
                  obtain ⟨rfl, rfl⟩ := h
                  obtain ⟨m', vs, b1, b2, b3, b4, b5⟩ := sliceCells_ok (P := P) hr hy hnew
                  rw [hm] at b1; simp at b1; subst b1
                  have hvs : vs = [] := by cases vs <;> simp_all
                  subst hvs
                  unfold isSl at hsl
                  split at hsl
                  · cases hx
                    exact ⟨φ, _, w, .nilslice, append_none hD hus hux hxm hei b4 b5 (Nat.le_refl _), Stp.refl _ _ _, hr⟩
                  · cases hx with
                    | slice0 _ a c hz => exact ⟨φ, _, w, .slice0 _ a c hz, append_none hD hus hux hxm hei b4 b5 (Nat.zero_le _), Stp.refl _ _ _, hr⟩
                  · cases hx with
                    | slice hrb hc _ _ hn' => exact ⟨φ, _, w, .slice hrb hc _ _ hn', append_none hD hus hux hxm hei b4 b5 hn', Stp.refl _ _ _, hr⟩
                  · simp at hsl
                · simp at h
              · rename_i m
                split at h
                · rename_i hbound
                  simp only [Bool.and_eq_true] at hbound
                  have hb1 := ble_true hbound.1
                  have hb2 := ble_true hbound.2
                  unfold pow48 at hb1 hb2
                  exact appendC_ok hD hr hus hux hxm hei hz hzl hx hy hn hm (by omega) hold hnew hb1 hb2 h
                · simp at h
            · simp at h
          · simp at h
        · simp at h
      · simp at h
    · simp at h
  · simp at h

end
end Go.Eng
