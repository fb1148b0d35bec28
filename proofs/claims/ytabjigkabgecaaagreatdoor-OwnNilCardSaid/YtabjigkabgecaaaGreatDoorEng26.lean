/-
  The abstract interpreter, its soundness: which operations of a region are ahead of which.
-/
import Derived.Test.YtabjigkabgecaaaGreatDoorEng25
namespace Go.Eng
variable {ops : Array Oper}

theorem bitOf_eq (m i : Nat) : bitOf m i = m.testBit i := by
  unfold bitOf
  rw [Nat.testBit_eq_decide_div_mod_eq]
  by_cases h : m / 2 ^ i % 2 = 1
  · rw [h]; rfl
  · simp only [h, decide_false]
    cases hb : Nat.beq (m / 2 ^ i % 2) 1
    · rfl
    · exact absurd (beq_true hb) h

theorem go_take : ∀ (l : List Oper) (acc : List Nat), (masks.go l acc).take acc.length = acc.reverse ∧ (masks.go l acc).length = acc.length + l.length
  | [], acc => by simp [masks.go, List.take_of_length_le]
  | o :: r, acc => by
    simp only [masks.go]
    obtain ⟨h1, h2⟩ := go_take r (masks.one o.after.toList acc 0 :: acc)
    refine ⟨?_, by rw [h2]; simp; omega⟩
    have := congrArg (List.take acc.length) h1
    rw [List.take_take] at this
    simpa using this

theorem go_get : ∀ (l : List Oper) (acc : List Nat) (k : Nat) (o : Oper), l[k]? = some o →
    (masks.go l acc)[acc.length + k]? = some (masks.one o.after.toList ((masks.go l acc).take (acc.length + k)).reverse 0)
  | [], acc, k, o, h => by simp at h
  | x :: r, acc, 0, o, h => by
    simp at h
    subst h
    simp only [masks.go, Nat.add_zero]
    obtain ⟨h1, h2⟩ := go_take r (masks.one x.after.toList acc 0 :: acc)
    have h3 : (masks.go r (masks.one x.after.toList acc 0 :: acc)).take acc.length = acc.reverse := by
      have := congrArg (List.take acc.length) h1
      rw [List.take_take] at this
      simpa using this
    rw [h3]
    simp only [List.reverse_reverse]
    have : ((masks.go r (masks.one x.after.toList acc 0 :: acc)).take (acc.length + 1))[acc.length]? = some (masks.one x.after.toList acc 0) := by
      have e : (masks.one x.after.toList acc 0 :: acc).length = acc.length + 1 := rfl
      rw [← e, h1]
      simp
    rw [List.getElem?_take] at this
    simpa using this
  | x :: r, acc, k + 1, o, h => by
    simp only [masks.go]
    have := go_get r (masks.one x.after.toList acc 0 :: acc) k o (by simpa using h)
    have e : (masks.one x.after.toList acc 0 :: acc).length + k = acc.length + (k + 1) := by simp; omega
    rw [e] at this
    exact this

theorem one_cases {j : Nat} : ∀ (es : List Edge) (acc : List Nat) (m : Nat), bitOf (masks.one es acc m) j = true →
    bitOf m j = true ∨ ∃ e, e ∈ es ∧ Region.binds .any e = true ∧ (e.on = j ∨ bitOf (acc[acc.length - 1 - e.on]?.getD 0) j = true)
  | [], acc, m, h => .inl h
  | e :: r, acc, m, h => by
    simp only [masks.one] at h
    split at h
    · rcases one_cases r acc m h with h | ⟨e', h1, h2⟩
      · exact .inl h
      · exact .inr ⟨e', List.mem_cons_of_mem _ h1, h2⟩
    · rcases one_cases r acc m h with h | ⟨e', h1, h2⟩
      · exact .inl h
      · exact .inr ⟨e', List.mem_cons_of_mem _ h1, h2⟩
    · rename_i h1 h2
      have hb : Region.binds .any e = true := by
        unfold Region.binds
        split
        · rename_i row hg; exact absurd hg (h1 row)
        · rename_i row hg; exact absurd hg (h2 row)
        · rfl
      rcases one_cases r acc _ h with h | ⟨e', h1, h2⟩
      · rw [bitOf_eq] at h
        have h : (m ||| 2 ^ e.on ||| acc[acc.length - 1 - e.on]?.getD 0).testBit j = true := h
        rw [Nat.testBit_or, Nat.testBit_or, Nat.testBit_two_pow] at h
        simp only [Bool.or_eq_true, decide_eq_true_eq] at h
        rcases h with (h | h) | h
        · exact .inl (by rw [bitOf_eq]; exact h)
        · exact .inr ⟨e, List.mem_cons_self .., hb, .inl h⟩
        · exact .inr ⟨e, List.mem_cons_self .., hb, .inr (by rw [bitOf_eq]; exact h)⟩
      · exact .inr ⟨e', List.mem_cons_of_mem _ h1, h2⟩

/-- Is j ahead of i? -/
def anc (ops : Array Oper) (i j : Nat) : Bool := bitOf ((masks ops.toList)[i]?.getD 0) j

def Fwd (ops : Array Oper) : Prop := ∀ (i : Nat) (o : Oper), ops[i]? = some o → ∀ e, e ∈ o.after → Region.binds .any e = true → e.on < i

theorem anc_cases (hf : Fwd ops) {i j : Nat} {o : Oper} (ho : ops[i]? = some o) (h : anc ops i j = true) : ∃ e, e ∈ o.after ∧ Region.binds .any e = true ∧ (e.on = j ∨ anc ops e.on j = true) := by
  have ho' : ops.toList[i]? = some o := by simpa using ho
  have hi : i < ops.size := (Array.getElem?_eq_some_iff.1 ho).1
  have := go_get ops.toList [] i o ho'
  simp only [List.length_nil, Nat.zero_add] at this
  have hm : (masks ops.toList)[i]? = some (masks.one o.after.toList ((masks ops.toList).take i).reverse 0) := this
  unfold anc at h
  rw [hm] at h
  rcases one_cases _ _ _ h with h | ⟨e, h1, h2, h3⟩
  · rw [bitOf_eq] at h; simp at h
  · have h1' : e ∈ o.after := by simpa using h1
    refine ⟨e, h1', h2, ?_⟩
    have hlt := hf i o ho e h1' h2
    rcases h3 with h3 | h3
    · exact .inl h3
    · refine .inr ?_
      have hlen : (masks ops.toList).length = ops.size := by
        have := (go_take ops.toList []).2
        simpa [masks] using this
      have hl2 : ((masks ops.toList).take i).reverse.length = i := by simp [hlen]; omega
      rw [hl2, List.getElem?_reverse (by simp [hlen]; omega)] at h3
      have e1 : ((masks ops.toList).take i).length - 1 - (i - 1 - e.on) = e.on := by simp [hlen]; omega
      rw [e1, List.getElem?_take, if_pos hlt] at h3
      exact h3

theorem anc_lt (hf : Fwd ops) : ∀ (i j : Nat) (o : Oper), ops[i]? = some o → anc ops i j = true → j < i := by
  intro i
  induction i using Nat.strongRecOn with
  | _ i ih =>
    intro j o ho h
    obtain ⟨e, h1, h2, h3⟩ := anc_cases hf ho h
    have hlt := hf i o ho e h1 h2
    rcases h3 with rfl | h3
    · exact hlt
    · have hi : i < ops.size := (Array.getElem?_eq_some_iff.1 ho).1
      exact Nat.lt_trans (ih e.on hlt j ops[e.on] (by simp [Nat.lt_trans hlt hi]) h3) hlt

/-- What is done is closed: what is ahead of it is done. -/
def Closed (ops : Array Oper) (E : Nat → Prop) : Prop := ∀ i, E i → ∀ o, ops[i]? = some o → ∀ e, e ∈ o.after → Region.binds .any e = true → E e.on

theorem Closed.anc (hf : Fwd ops) {E : Nat → Prop} (hc : Closed ops E) : ∀ (i j : Nat) (o : Oper), ops[i]? = some o → E i → Eng.anc ops i j = true → E j := by
  intro i
  induction i using Nat.strongRecOn with
  | _ i ih =>
    intro j o ho hE h
    obtain ⟨e, h1, h2, h3⟩ := anc_cases hf ho h
    have hlt := hf i o ho e h1 h2
    have hEe := hc i hE o ho e h1 h2
    rcases h3 with rfl | h3
    · exact hEe
    · have hi : i < ops.size := (Array.getElem?_eq_some_iff.1 ho).1
      exact ih e.on hlt j ops[e.on] (by simp [Nat.lt_trans hlt hi]) hEe h3

/-- An operation whose edges lead to what is done: all that is ahead of it is done. -/
theorem Closed.ready (hf : Fwd ops) {E : Nat → Prop} (hc : Closed ops E) {i : Nat} {o : Oper} (ho : ops[i]? = some o) (hr : ∀ e, e ∈ o.after → Region.binds .any e = true → E e.on) {j : Nat} (h : Eng.anc ops i j = true) : E j := by
  obtain ⟨e, h1, h2, h3⟩ := anc_cases hf ho h
  have hlt := hf i o ho e h1 h2
  have hi : i < ops.size := (Array.getElem?_eq_some_iff.1 ho).1
  rcases h3 with rfl | h3
  · exact hr e h1 h2
  · exact hc.anc hf e.on j ops[e.on] (by simp [Nat.lt_trans hlt hi]) (hr e h1 h2) h3

/-! ### What 'regOk' asks -/
theorem memN_iff : ∀ {l : List Nat} {n : Nat}, memN l n = true ↔ n ∈ l
  | [], n => by simp [memN]
  | x :: r, n => by
    simp only [memN, Bool.or_eq_true, List.mem_cons, memN_iff (l := r)]
    constructor
    · rintro (h | h)
      · exact .inl (beq_true h).symm
      · exact .inr h
    · rintro (h | h)
      · subst h; exact .inl (Nat.beq_refl _)
      · exact .inr h

theorem against_ok {y : Oper} {m : Nat} : ∀ {acc : List (Nat × Oper)}, regOk.against ops y m acc = true → ∀ i x, (i, x) ∈ acc → bitOf m i = true ∨ regOk.apart ops x y = true
  | [], _, i, x, hm => by simp at hm
  | (i0, x0) :: r, h, i, x, hm => by
    simp only [regOk.against, Bool.and_eq_true, Bool.or_eq_true] at h
    rcases List.mem_cons.1 hm with hm | hm
    · simp at hm
      obtain ⟨rfl, rfl⟩ := hm
      exact h.1
    · exact against_ok h.2 i x hm

theorem regGo_ok : ∀ (l : List (Oper × Nat)) (j : Nat) (acc : List (Nat × Oper)), regOk.go ops j l acc = true → ∀ k y m, l[k]? = some (y, m) →
    (∀ i x, (i, x) ∈ acc → bitOf m i = true ∨ regOk.apart ops x y = true) ∧ (∀ k' x m', k' < k → l[k']? = some (x, m') → bitOf m (j + k') = true ∨ regOk.apart ops x y = true) ∧
      (∀ e, e ∈ y.after → Region.binds .any e = true → e.on < j + k)
  | [], j, acc, _, k, y, m, h => by simp at h
  | (y0, m0) :: r, j, acc, h, k, y, m, hk => by
    simp only [regOk.go, Bool.and_eq_true] at h
    cases k with
    | zero =>
      simp at hk
      obtain ⟨rfl, rfl⟩ := hk
      refine ⟨against_ok h.1.1, fun k' x m' hk' => by omega, fun e he hb => ?_⟩
      have h2 := h.1.2
      rw [Array.all_eq_true_iff_forall_mem] at h2
      have h3 := h2 e he
      unfold Region.binds at hb
      split at h3
      · rename_i hg; rw [hg] at hb; simp at hb
      · rename_i hg; rw [hg] at hb; simp at hb
      · exact blt_true h3
    | succ k =>
      obtain ⟨g1, g2, g3⟩ := regGo_ok r (j + 1) ((j, y0) :: acc) h.2 k y m (by simpa using hk)
      refine ⟨fun i x hm => g1 i x (List.mem_cons_of_mem _ hm), fun k' x m' hk' hx => ?_, fun e he hb => by have := g3 e he hb; omega⟩
      cases k' with
      | zero =>
        simp at hx
        obtain ⟨rfl, rfl⟩ := hx
        exact g1 j y0 (List.mem_cons_self ..)
      | succ k' =>
        have := g2 k' x m' (by omega) (by simpa using hx)
        have e : j + 1 + k' = j + (k' + 1) := by omega
        rw [e] at this
        exact this

theorem zip_get {i : Nat} {o : Oper} (ho : ops[i]? = some o) : (ops.toList.zip (masks ops.toList))[i]? = some (o, (masks ops.toList)[i]?.getD 0) := by
  have hi : i < ops.size := (Array.getElem?_eq_some_iff.1 ho).1
  have hlen : (masks ops.toList).length = ops.size := by
    have := (go_take ops.toList []).2
    simpa [masks] using this
  have h1 : ops.toList[i]? = some o := by simpa using ho
  have h2 : (masks ops.toList)[i]? = some ((masks ops.toList)[i]'(by omega)) := List.getElem?_eq_getElem _
  have h3 : (ops.toList.zip (masks ops.toList))[i]? = some (o, (masks ops.toList)[i]'(by omega)) := List.getElem?_zip_eq_some.2 ⟨h1, h2⟩
  rw [h3, h2]
  rfl

structure RegR (ops : Array Oper) : Prop where
  fwd : Fwd ops
  /-- a writer and one that looks -/
  look : ∀ i j x y t, ops[i]? = some x → ops[j]? = some y → y.dst = some t → t ∈ looksOf ops x → (i < j → anc ops j i = true) ∧ (j < i → anc ops i j = true)
  /-- two writers -/
  write : ∀ i j x y t, i < j → ops[i]? = some x → ops[j]? = some y → x.dst = some t → y.dst = some t → anc ops j i = true

theorem regOk_ok (h : regOk ops = true) : RegR ops := by
  unfold regOk at h
  have key : ∀ i j x y, i < j → ops[i]? = some x → ops[j]? = some y → anc ops j i = true ∨ regOk.apart ops x y = true := by
    intro i j x y hij hx hy
    have := (regGo_ok _ 0 [] h j y _ (zip_get hy)).2.1 i x _ hij (zip_get hx)
    simpa [anc] using this
  refine ⟨fun i o ho e he hb => ?_, fun i j x y t hx hy hd hl => ⟨fun hij => ?_, fun hji => ?_⟩, fun i j x y t hij hx hy hd hd' => ?_⟩
  · have := (regGo_ok _ 0 [] h i o _ (zip_get ho)).2.2 e he hb
    simpa using this
  · rcases key i j x y hij hx hy with h | h
    · exact h
    · simp only [regOk.apart, hd, Bool.and_eq_true, Bool.not_eq_true'] at h
      have := h.2
      rw [memN_iff.2 hl] at this
      simp at this
  · rcases key j i y x hji hy hx with h | h
    · exact h
    · simp only [regOk.apart, hd, Bool.and_eq_true, Bool.not_eq_true'] at h
      have := h.1.1
      rw [memN_iff.2 hl] at this
      simp at this
  · rcases key i j x y hij hx hy with h | h
    · exact h
    · simp only [regOk.apart, hd, hd', Bool.and_eq_true, Bool.not_eq_true'] at h
      have := h.1.2
      rw [Nat.beq_refl] at this
      simp at this

end Go.Eng
