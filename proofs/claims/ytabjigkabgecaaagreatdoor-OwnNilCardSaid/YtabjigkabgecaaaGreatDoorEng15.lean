/-
  The abstract interpreter, its soundness: slices, copy, clear, conversions.
-/
import Derived.Test.YtabjigkabgecaaaGreatDoorEng14
namespace Go.Eng
variable {P : Program} {D : Tab} {φ : Phi} {s : St} {w : World} {T : PT AV} {ρ : Operand → Value}

/-! ### Slice expressions -/
def OptR (φ : Phi) : Option AV → Option Value → Prop
  | none, none => True
  | some a, some v => VR φ a v
  | _, _ => False

theorem sliceBound_ok {k : IntKind} {n : Int} {y : Nat} (h0 : 0 ≤ n) (h1 : n.toNat ≤ y) (c : BoundsCode) : (Instr.sliceBound (.int k n) y c).run P w = .ok n.toNat w := by
  have : n ≤ y := by omega
  simp [Instr.sliceBound, asIntOf, h0, this]

theorem optInt_ok {d r : Nat} {a : Option AV} {v : Option Value} (hv : OptR φ a v) (h : optInt d a = some r) : (v = none ∧ r = d) ∨ ∃ k n, v = some (.int k n) ∧ 0 ≤ n ∧ n.toNat = r := by
  unfold optInt at h
  split at h
  · simp at h; subst h
    cases v with
    | none => exact .inl ⟨rfl, rfl⟩
    | some v => simp [OptR] at hv
  · rename_i k n
    split at h
    · rename_i h0
      simp at h
      cases v with
      | none => simp [OptR] at hv
      | some v =>
        simp only [OptR] at hv
        cases hv
        exact .inr ⟨_, _, rfl, h0, h⟩
    · simp at h
  · simp at h

theorem sliceBounds_ok {isS : Bool} {len cap l h : Nat} {lo hi : Option AV} {lv hv : Option Value} (hl : OptR φ lo lv) (hh : OptR φ hi hv) (h1 : optInt 0 lo = some l) (h2 : optInt len hi = some h) (hlh : l ≤ h) (hhc : h ≤ cap) :
    (Instr.sliceBounds isS len cap lv hv none).run P w = .ok (l, h, cap) w := by
  rcases optInt_ok hl h1 with ⟨rfl, rfl⟩ | ⟨k, n, rfl, n0, rfl⟩
  · rcases optInt_ok hh h2 with ⟨rfl, rfl⟩ | ⟨k', n', rfl, n0', rfl⟩
    · simp [Instr.sliceBounds]
    · simp [Instr.sliceBounds, sliceBound_ok n0' hhc]
  · rcases optInt_ok hh h2 with ⟨rfl, rfl⟩ | ⟨k', n', rfl, n0', rfl⟩
    · simp [Instr.sliceBounds, sliceBound_ok n0 hlh]
    · simp [Instr.sliceBounds, sliceBound_ok n0' hhc, sliceBound_ok n0 hlh]

theorem sliceBounds3_ok {isS : Bool} {len cap l h : Nat} {lo hi : Option AV} {lv hv : Option Value} {k : IntKind} {m : Int} (hl : OptR φ lo lv) (hh : OptR φ hi hv) (hs : hv.isSome = true) (h1 : optInt 0 lo = some l) (h2 : optInt len hi = some h) (hlh : l ≤ h) (hm0 : 0 ≤ m) (hhm : h ≤ m.toNat) (hmc : m.toNat ≤ cap) :
    (Instr.sliceBounds isS len cap lv hv (some (.int k m))).run P w = .ok (l, h, m.toNat) w := by
  rcases optInt_ok hl h1 with ⟨rfl, rfl⟩ | ⟨k1, n, rfl, n0, rfl⟩
  · rcases optInt_ok hh h2 with ⟨rfl, rfl⟩ | ⟨k', n', rfl, n0', rfl⟩
    · simp at hs
    · simp [Instr.sliceBounds, sliceBound_ok hm0 hmc, sliceBound_ok n0' hhm]
  · rcases optInt_ok hh h2 with ⟨rfl, rfl⟩ | ⟨k', n', rfl, n0', rfl⟩
    · simp at hs
    · simp [Instr.sliceBounds, sliceBound_ok hm0 hmc, sliceBound_ok n0' hhm, sliceBound_ok n0 hlh]

theorem add_addr (r o k : Nat) : (⟨r, o, none⟩ : Addr).add k = ⟨r, o + k, none⟩ := by unfold Addr.add; split <;> simp_all

theorem sliceEx_ok {size b o c l h m r sh : Nat} {v : AV} (hr : φ.blk b = some (r, sh)) (hv : sliceEx size b o c l h m = some v) :
    l ≤ h ∧ h ≤ m ∧ m ≤ c ∧ VR φ v (.slice (if m = l then some ⟨r, sh + o, none⟩ else (some (⟨r, sh + o, none⟩ : Addr)).map (·.add (l * size))) (h - l) (m - l)) := by
  unfold sliceEx at hv
  split at hv
  · rename_i hc
    simp only [Bool.and_eq_true] at hc
    have h1 := ble_true hc.1.1
    have h2 := ble_true hc.1.2
    have h3 := ble_true hc.2
    simp at hv
    subst hv
    refine ⟨h1, h2, h3, ?_⟩
    split
    · rename_i hb
      have := beq_true hb
      rw [if_pos this]
      exact .slice hr (.exact _) _ _ (by omega)
    · rename_i hb
      have : m ≠ l := by rintro rfl; simp at hb
      rw [if_neg this]
      simp only [Option.map_some, add_addr]
      rw [Nat.add_assoc]
      exact .slice hr (.exact _) _ _ (by omega)
  · simp at hv

theorem natOf_ok {m : AV} {mv : Value} {n : Nat} (hm : VR φ m mv) (h : natOf m = some n) : ∃ k x, mv = .int k x ∧ 0 ≤ x ∧ x.toNat = n := by
  unfold natOf at h
  split at h
  · split at h
    · rename_i h0
      simp at h
      cases hm
      exact ⟨_, _, rfl, h0, h⟩
    · simp at h
  · simp at h

section
variable (hD : TabOk P D)
include hD

theorem sliceA_ok {t : TypeId} {x v : AV} {xv : Value} {lo hi mx : Option AV} {lv hv mv : Option Value} (hx : VR φ x xv) (hl : OptR φ lo lv) (hh : OptR φ hi hv) (hm : OptR φ mx mv) (h : sliceA D t x lo hi mx = some v) (w : World) :
    ∃ u, VR φ v u ∧ (Instr.sliceAt t xv lv hv mv).run P w = .ok u w := by
  unfold sliceA at h
  split at h
  · simp at h
  · rename_i i hi'
    obtain ⟨de, _, hde, hu⟩ := run_under hD hi' w
    split at h
    · -- a string
      rename_i hid
      rw [hid] at hde
      obtain rfl : de = .string := by cases de <;> simp [tdOf] at hde; rfl
      split at h
      · rename_i s0
        unfold sliceStr at h
        split at h
        · rename_i l hh' h1 h2
          split at h
          · rename_i hc
            simp only [Bool.and_eq_true] at hc
            simp at h
            subst h
            cases hx
            obtain rfl : mv = none := by cases mv with | none => rfl | some _ => simp [OptR] at hm
            have := sliceBounds_ok (P := P) (w := w) (isS := false) hl hh h1 h2 (ble_true hc.1) (ble_true hc.2)
            exact ⟨_, .str _, by simp [Instr.sliceAt, hu, Instr.slice, this]⟩
          · simp at h
        · simp at h
      · simp at h
    · rename_i e hid
      rw [hid] at hde
      obtain rfl : de = .slice e := by cases de <;> simp [tdOf] at hde; rw [hde]
      split at h
      · simp at h
      · rename_i ei hei
        have hsz := run_size hD hei w
        split at h
        · -- a nil slice
          cases hx
          unfold sliceNil at h
          split at h
          · rename_i h1 h2
            simp at h
            subst h
            obtain rfl : mv = none := by cases mv with | none => rfl | some _ => simp [OptR] at hm
            have := sliceBounds_ok (P := P) (w := w) (isS := true) (cap := 0) hl hh h1 h2 (Nat.le_refl _) (Nat.le_refl _)
            exact ⟨_, .nilslice, by simp [Instr.sliceAt, hu, Instr.slice, this, hsz]⟩
          · rename_i va kk h1 h2
            simp at h
            subst h
            obtain ⟨mu, rfl⟩ : ∃ mu, mv = some mu := by cases mv with | none => simp [OptR] at hm | some mu => exact ⟨mu, rfl⟩
            obtain ⟨hu', rfl⟩ : ∃ mu, hv = some mu := by cases hv with | none => simp [OptR] at hh | some mu => exact ⟨mu, rfl⟩
            simp only [OptR] at hm
            cases hm
            have := sliceBounds3_ok (P := P) (w := w) (isS := true) (cap := 0) (k := kk) (m := 0) hl hh rfl h1 h2 (Nat.le_refl _) (by omega) (Nat.le_refl _) (Nat.le_refl _)
            exact ⟨_, .nilslice, by simp [Instr.sliceAt, hu, Instr.slice, this, hsz]⟩
          · simp at h
        · -- an empty one
          rename_i z
          cases hx with
          | slice0 _ a c hz =>
            unfold slice00 at h
            split at h
            · rename_i h1 h2
              simp at h
              subst h
              obtain rfl : mv = none := by cases mv with | none => rfl | some _ => simp [OptR] at hm
              have := sliceBounds_ok (P := P) (w := w) (isS := true) (cap := c) hl hh h1 h2 (Nat.le_refl _) (Nat.zero_le _)
              by_cases hc0 : c = 0
              · subst hc0
                exact ⟨_, .slice0 z a 0 hz, by simp [Instr.sliceAt, hu, Instr.slice, this, hsz]⟩
              · exact ⟨_, .slice0 z (a.add (0 * ei.size)) c hz, by simp [Instr.sliceAt, hu, Instr.slice, this, hsz, hc0]⟩
            · rename_i va kk h1 h2
              simp at h
              subst h
              obtain ⟨mu, rfl⟩ : ∃ mu, mv = some mu := by cases mv with | none => simp [OptR] at hm | some mu => exact ⟨mu, rfl⟩
              obtain ⟨hu', rfl⟩ : ∃ mu, hv = some mu := by cases hv with | none => simp [OptR] at hh | some mu => exact ⟨mu, rfl⟩
              simp only [OptR] at hm
              cases hm
              have := sliceBounds3_ok (P := P) (w := w) (isS := true) (cap := c) (k := kk) (m := 0) hl hh rfl h1 h2 (Nat.le_refl _) (by omega) (Nat.le_refl _) (Nat.zero_le _)
              exact ⟨_, .slice0 true a 0 (fun _ => rfl), by simp [Instr.sliceAt, hu, Instr.slice, this, hsz]⟩
            · simp at h
        · rename_i b o len cap
          cases hx with
          | slice hrb hc _ _ hle =>
            rename_i r sh c
            unfold sliceSl at h
            split at h
            · rename_i l hh' h1 h2
              split at h
              · obtain rfl : mv = none := by cases mv with | none => rfl | some _ => simp [OptR] at hm
                split at h
                · rename_i c'
                  cases hc
                  obtain ⟨e1, e2, e3, e4⟩ := sliceEx_ok hrb h
                  have := sliceBounds_ok (P := P) (w := w) (isS := true) (cap := c) hl hh h1 h2 e1 e2
                  exact ⟨_, e4, by simp [Instr.sliceAt, hu, Instr.slice, this, hsz]⟩
                · rename_i k sb
                  cases hc with
                  | var hk =>
                    rename_i cp
                    unfold sliceVar at h
                    split at h
                    · rename_i hcond
                      simp only [Bool.and_eq_true] at hcond
                      have e1 := ble_true hcond.1
                      have e2 := ble_true hcond.2
                      have := sliceBounds_ok (P := P) (w := w) (isS := true) (cap := cp - sb) hl hh h1 h2 e1 (by omega)
                      split at h
                      · rename_i hlt
                        have e3 := blt_true hlt
                        simp at h
                        subst h
                        have hne : ¬ cp - sb = l := by omega
                        have hcr : CR φ (.var k (sb + l)) (cp - sb - l) := by
                          have := CR.var (φ := φ) (s := sb + l) hk
                          rwa [← Nat.sub_sub] at this
                        refine ⟨_, VR.slice hrb hcr (o + l * ei.size) (hh' - l) (by omega), ?_⟩
                        simp [Instr.sliceAt, hu, Instr.slice, this, hsz, hne, add_addr, Nat.add_assoc]
                      · rename_i hlt
                        have e3 : ¬ l < len := fun hh => by
                          have : Nat.blt l len = true := by simpa [Nat.blt_eq] using hh
                          rw [this] at hlt
                          simp at hlt
                        simp at h
                        subst h
                        have e4 : hh' - l = 0 := by omega
                        by_cases hc0 : cp - sb = l
                        · refine ⟨_, .slice0 false ⟨r, sh + o, none⟩ 0 (fun h => by cases h), ?_⟩
                          rw [hc0] at this
                          simp [Instr.sliceAt, hu, Instr.slice, this, hsz, hc0, e4]
                        · refine ⟨_, .slice0 false ((⟨r, sh + o, none⟩ : Addr).add (l * ei.size)) (cp - sb - l) (fun h => by cases h), ?_⟩
                          simp [Instr.sliceAt, hu, Instr.slice, this, hsz, hc0, e4]
                    · simp at h
              · rename_i ma
                split at h
                · rename_i m ha hnm
                  obtain ⟨mu, rfl⟩ : ∃ mu, mv = some mu := by cases mv with | none => simp [OptR] at hm | some mu => exact ⟨mu, rfl⟩
                  obtain ⟨hu', rfl⟩ : ∃ mu, hv = some mu := by cases hv with | none => simp [OptR] at hh | some mu => exact ⟨mu, rfl⟩
                  simp only [OptR] at hm
                  obtain ⟨k', x', rfl, x0, rfl⟩ := natOf_ok hm hnm
                  split at h
                  · rename_i c'
                    cases hc
                    obtain ⟨e1, e2, e3, e4⟩ := sliceEx_ok hrb h
                    have := sliceBounds3_ok (P := P) (w := w) (isS := true) (cap := c) (k := k') (m := x') hl hh rfl h1 h2 e1 x0 e2 e3
                    exact ⟨_, e4, by simp [Instr.sliceAt, hu, Instr.slice, this, hsz]⟩
                  · rename_i k sb
                    obtain ⟨e1, e2, e3, e4⟩ := sliceEx_ok hrb h
                    have := sliceBounds3_ok (P := P) (w := w) (isS := true) (cap := c) (k := k') (m := x') hl hh rfl h1 h2 e1 x0 e2 (by omega)
                    exact ⟨_, e4, by simp [Instr.sliceAt, hu, Instr.slice, this, hsz]⟩
                · simp at h
            · simp at h
        · simp at h
    · rename_i n e hid
      rw [hid] at hde
      obtain rfl : de = .array n e := by cases de <;> simp [tdOf] at hde; obtain ⟨rfl, rfl⟩ := hde; rfl
      split at h
      · simp at h
      · rename_i ei hei
        have hsz := run_size hD hei w
        split at h
        · rename_i b o l hh' h1 h2
          cases hx with
          | ptr hrb =>
            rename_i r sh
            obtain rfl : mv = none := by cases mv with | none => rfl | some _ => simp [OptR] at hm
            obtain ⟨e1, e2, e3, e4⟩ := sliceEx_ok hrb h
            have := sliceBounds_ok (P := P) (w := w) (isS := false) (cap := n) hl hh h1 h2 e1 e2
            refine ⟨_, e4, ?_⟩
            simp only [Instr.sliceAt, Sem.run_bind, hu, Result.andThen_ok, Instr.sureAddr, Sem.run_pure, this, hsz]
            congr 2
            split <;> simp
        · simp at h
    · simp at h

end
end Go.Eng
