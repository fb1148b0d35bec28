/-
  The library's calls that are known by a contract of the kit's; laid tables.
  A slice cut to what it has.
  Sorting: the library's contract (elements of one cell), as a call of states.
-/
import Derived.Test.YtnhlppginnojfaaDoorW15to28
import Derived.Below
import Derived.Shelf.Unicode.DecodeSlow
set_option linter.unusedVariables false
set_option linter.unusedSimpArgs false
namespace Go.Eng
open Go.Proofs Go.RowKit
noncomputable section
variable {P : Program} {D : Tab}
theorem Rel.below {φ : Phi} {s : St} {w w' : World} (h : Rel φ s w) (k : Below w.heap.size w w') : Rel φ s w' :=
 ⟨fun b o hb => by
  rcases h.obj b o hb with hv | ⟨r, sh, ro, h1, h2, h3⟩
  ·exact .inl hv
  ·have := (Array.getElem?_eq_some_iff.1 h2).1
   exact .inr ⟨r, sh, ro, h1, by rw [k.block r this]; exact h2, h3⟩, h.inj, h.fresh, h.freshc, h.glob, h.gnx, h.facts⟩
theorem Stp.below {w w' : World} {φ : Phi} {s : St} (hl : Loose φ.env) (k : Below w.heap.size w w') : Stp φ s w φ s w' :=
 ⟨Phi.le.rfl' φ, fun b _ sh h h' => .inr ⟨b, sh, h, h'⟩, fun b _ sh h h' => .inr ⟨b, sh, h, h'⟩, fun r hr _ => k.block r hr, k.size, k.os, k.output, k.tape, Nat.le_refl _, Nat.le_refl _, fun _ _ => rfl, fun r arr e fz hx => by
  have := (Array.getElem?_eq_some_iff.1 hx).1
  exact ⟨arr, fz, by rw [k.block r this]; exact hx, rfl⟩, fun hn => absurd hl hn⟩
theorem FL_loose {φ : Phi} {s : St} {w : World} (h : Rel φ s w) (hF : FL ∈ s.fs) : Loose φ.env := h.facts FL hF
theorem CallsD.below {g : FuncId} {args : List AV} {s : St} {x : AV} (hF : FL ∈ s.fs) (h : ∀ (φ : Phi) (vals : List Value) (w : World), Rel φ s w → VRs φ args vals → ∃ u, VR φ x u ∧ Calls P g vals.toArray w fun e w' => e = .returned u ∧ Below w.heap.size w w') :
  CallsD P g args s fun v s' => v = x ∧ s' = s := by
 intro hf
 refine ⟨x, s, ⟨rfl, rfl⟩, Gro.refl hf, ?_⟩
 intro φ vals w cs hr hv
 obtain ⟨u, hu, hc⟩ := h φ vals w hr hv
 obtain ⟨e, w', fr, ⟨rfl, hb⟩, h1, h2, h3⟩ := hc cs
 exact ⟨x, s, ⟨rfl, rfl⟩, φ, u, w', fr, Stp.below (FL_loose hr hF) hb, hr.below hb, hu, h1, h2, h3⟩
theorem CallsD.same {g : FuncId} {args : List AV} {s : St} {x : AV} (h : ∀ (φ : Phi) (vals : List Value) (w : World), VRs φ args vals → ∃ u, VR φ x u ∧ Calls P g vals.toArray w fun e w' => e = .returned u ∧ w' = w) :
  CallsD P g args s fun v s' => v = x ∧ s' = s := by
 intro hf
 refine ⟨x, s, ⟨rfl, rfl⟩, Gro.refl hf, ?_⟩
 intro φ vals w cs hr hv
 obtain ⟨u, hu, hc⟩ := h φ vals w hv
 obtain ⟨e, w', fr, ⟨rfl, rfl⟩, h1, h2, h3⟩ := hc cs
 exact ⟨x, s, ⟨rfl, rfl⟩, φ, u, _, fr, Stp.refl _ _ _, hr, hu, h1, h2, h3⟩
def firstC : List AV := (List.range 256).map fun c => .int .u8 (Lib.firstT c)
def accC : List AV := (List.range 32).map fun c => .int .u8 (if c % 2 = 0 then Lib.accLo (c / 2) else Lib.accHi (c / 2))
def Tabs (g3 g4 : Nat) (s : St) : Prop := Rd s g3 0 firstC ∧ Rd s g4 0 accC ∧ FL ∈ s.fs
theorem Tabs.fwd {g3 g4 : Nat} {M : List Nat} {s s' : St} (h : Tabs g3 g4 s) (hf : Frw M s s') (h3 : g3 ∉ M) (h4 : g4 ∉ M) : Tabs g3 g4 s' :=
 ⟨h.1.fwd hf h3, h.2.1.fwd hf h4, by rw [hf.2.2]; exact h.2.2⟩
theorem Tabs.ext {g3 g4 : Nat} {s s' : St} (h : Tabs g3 g4 s) (hf : Frw [] s s') : Tabs g3 g4 s' := h.fwd hf (by simp) (by simp)
theorem Rel.cellG {φ : Phi} {s : St} {w : World} (h : Rel φ s w) {g : Nat} (hg : g < GG) {cs : List AV} (hr : Rd s g 0 cs) {i : Nat} {k : IntKind} {n : Int} (hi : cs[i]? = some (.int k n)) : w.cell? ⟨g, i, none⟩ = some (.int k n) := by
 have hl : i < cs.length := (List.getElem?_eq_some_iff.1 hi).1
 have h1 := hr.ld1 i hi
 obtain ⟨c, m, tl, g1, g2, g3⟩ := hr
 obtain ⟨r, sh, arr, e, fz, q1, q2, q3, _⟩ := h.cells g1
 have hb := h.glob g hg
 rw [hb] at q1
 simp only [Option.some.injEq, Prod.mk.injEq] at q1
 obtain ⟨rfl, rfl⟩ := q1
 have g4 := getAll_part g3 i 1 (by omega)
 have g5 : c.get (0 + i) = some (.int k n) := by
  have e0 : (cs.drop i).take 1 = [.int k n] := by
   rw [List.drop_eq_getElem_cons hl]
   simp only [List.take_succ_cons, List.take_zero]
   rw [List.getElem?_eq_getElem hl] at hi
   simpa using hi
  rw [e0] at g4
  simp only [PT.getAll] at g4
  cases hx : c.get (0 + i) with
  | none => rw [hx] at g4; simp at g4
  | some y => rw [hx] at g4; simpa using g4
 obtain ⟨v, v1, v2⟩ := q3.2 (0 + i) _ (by omega) g5
 cases v2
 simpa [World.cell?, q2] using v1
theorem Rel.tabs {φ : Phi} {s : St} {w : World} (h : Rel φ s w) {g3 g4 : Nat} (h3 : g3 < GG) (h4 : g4 < GG) (ht : Tabs g3 g4 s) : Lib.Utf8Tabs g3 g4 w := by
 refine ⟨fun c hc => h.cellG h3 ht.1 (by simp [firstC, hc]), fun i hi => ⟨h.cellG h4 ht.2.1 ?_, h.cellG h4 ht.2.1 ?_⟩⟩
 ·simp [accC, show 2 * i < 32 by omega]
 ·simp [accC, show 2 * i + 1 < 32 by omega]
  rw [show (2 * i + 1) / 2 = i by omega]
end
end Go.Eng

namespace Go.Eng
noncomputable section
variable {P : Program} {D : Tab} {α : Type}
theorem Sl.clip {E : Enc α} {s : St} {x : AV} {l : List α} (h : Sl E s x l) (hc : ∀ b o n c, x = .slice b o n (.exact c) → n ≤ c) {K : AV → Prop}
  (hK : ∀ y, Sl E s y l → (∀ c, c ∈ blkOf y → c ∈ blkOf x) → (∀ b o n c, y = .slice b o n (.exact c) → n ≤ c) → K y) :
  optK (sliceV E.z x none (some (.int .i64 ((l.length : Nat) : Int))) (some (.int .i64 ((l.length : Nat) : Int)))) K := by
 have hl := h.len
 have hi : ∀ d, optInt d (some (.int .i64 ((l.length : Nat) : Int))) = some l.length := fun d => by simp [optInt]
 have hn : natOf (.int .i64 ((l.length : Nat) : Int)) = some l.length := by simp [natOf]
 rcases h with ⟨hz, hcs⟩ | ⟨b, o, n, cap, rfl, hlen, hr⟩
 ·have h0 : l.length = 0 := by
   have := slZero_len hz
   rw [this] at hl
   simpa using hl.symm
  have hnil : l = [] := List.length_eq_zero_iff.1 h0
  subst hnil
  cases x <;> simp only [slZero, Bool.false_eq_true] at hz
  ·exact hK .nilslice (.nil _ _) (by simp [blkOf]) (by simp)
  ·exact hK (.slice0 true) (.inl ⟨rfl, rfl⟩) (by simp [blkOf]) (by simp)
 ·have hn' : n = l.length := by simpa [slLen] using hl
  subst hn'
  have e : ∀ c, l.length ≤ c → sliceEx E.z b o c 0 l.length l.length = some (.slice b o l.length (.exact l.length)) := fun c hc => by
   have e1 : Nat.ble 0 l.length = true := by rw [Nat.ble_eq]; omega
   have e2 : Nat.ble l.length l.length = true := by rw [Nat.ble_eq]; omega
   have e3 : Nat.ble l.length c = true := by rw [Nat.ble_eq]; omega
   simp only [sliceEx, e1, e2, e3, Bool.and_self, if_true, Nat.sub_zero]
   congr 2
   cases hq : Nat.beq l.length 0 with
   | true => rfl
   | false => simp
  have e' : sliceV E.z (.slice b o l.length cap) none (some (.int .i64 ((l.length : Nat) : Int))) (some (.int .i64 ((l.length : Nat) : Int))) = some (.slice b o l.length (.exact l.length)) := by
   simp only [sliceV, hi, sliceSl, hn]
   cases cap with
   | exact c => exact e c (hc _ _ _ _ rfl)
   | var q t => exact e _ (Nat.le_refl _)
  rw [e']
  exact hK _ (.inr ⟨b, o, l.length, .exact l.length, rfl, hlen, hr⟩) (by simp [blkOf]) (by rintro _ _ _ _ h; cases h; exact Nat.le_refl _)
theorem Sl.clone {E : Enc α} {s : St} {x : AV} {l : List α} (h : Sl E s x l) {t et e' : TypeId} {ti ei : TyI} {zv : AV} (hti : D.ty.get t = some ti) (hd : ti.d = .slice et) (hei : D.ty.get et = some ei) (hsz : ei.size = E.z) (hzv : ei.zero = some zv) (hzl : zv.cells.length = E.z)
  (h1 : ∀ a, a ∈ l → ones (E.f a) = true) (hb : (l.length + l.length / 4 + 600) * ei.bytes ≤ pow48) (hbz : l.length ≤ pow48) (hfr : Fr s) {Q : AV → St → Prop}
  (hQ : ∀ y s', Sl E s' y l → Gone s y → (∀ b o n c, y = .slice b o n (.exact c) → n ≤ c) → Frw [] s s' → Fr s' → Q y s') :
  nilK (TD.slice e') x true fun c => bsel c (Q .nilslice s) (∀ (m2 : Nat) (s3 : St), NewO s (cellsO []) m2 s3 → ∃ (x4 : AV) (s5 : St), appendX D s3 t t (.slice m2 0 0 (.exact 0)) x = some (x4, s5) ∧ Q x4 s5) := by
 have hno : ∀ (m2 : Nat) (s3 : St), NewO s (cellsO []) m2 s3 → ∃ (x4 : AV) (s5 : St), appendX D s3 t t (.slice m2 0 0 (.exact 0)) x = some (x4, s5) ∧ Q x4 s5 := by
  intro m2 s3 hn
  obtain ⟨v, s', g1, g2, g3, g4, g5⟩ := appendAll0 (D := D) hn.own (h.ext hn.fwd) hti hd hei hsz hzv hzl h1 hb hbz hn.fr
  refine ⟨v, s', g1, hQ v s' g2 ?_ ?_ (hn.fwd.trans g4) g5⟩
  ·rcases g3 with ⟨_, rfl⟩ | ⟨_, g3⟩
   ·intro c hc
    have : c = m2 := by simpa [blkOf] using hc
    rw [this]; exact hn.gone
   ·exact fun c hc => hn.fwd.none (g3 c hc) (by simp)
  ·rcases g3 with ⟨_, rfl⟩ | ⟨g3, _⟩
   ·rintro b o n c h; cases h; exact Nat.le_refl _
   ·rintro b o n c rfl
    rcases g3 with ⟨h, _⟩ | ⟨_, _, _, _, h, _⟩ <;> cases h
 rcases h with ⟨hz, hcs⟩ | ⟨b, o, n, cap, rfl, hlen, hr⟩
 ·have hnil : l = [] := by
   have := congrArg List.length hcs
   rw [E.flat_len] at this
   have hp := E.pos
   rcases Nat.eq_zero_or_pos l.length with h | h
   ·exact List.length_eq_zero_iff.1 h
   ·have := Nat.mul_pos h hp
    simp only [List.length_nil] at *
    omega
  subst hnil
  cases x <;> simp only [slZero, Bool.false_eq_true] at hz
  ·exact hQ .nilslice s (.nil _ _) (Gone.nil _) (by simp) (.refl _ _) hfr
  ·exact hno
 ·exact hno
end
end Go.Eng

namespace Go.Eng
open Go.Proofs
noncomputable section
variable {P : Program} {D : Tab}
def El1 {β : Type} (φ : Phi) (mk : β → AV) (ok : β → Prop) : Type := { p : β × Value // VR φ (mk p.1) p.2 ∧ ok p.1 }
set_option maxHeartbeats 1000000 in
theorem CallsA.sort1 (hD : TabOk P D) {ρ : Shelf.Ren} (L : SlLaysF.n6 P ρ) {β : Type} (mk : β → AV) (h1 : ∀ x, ones [mk x] = true)
  (ok : β → Prop) (cf : β → β → Int) (hO : Sort.SWO (ltOf cf)) {g : FuncId} {fi : FnI} (hg : D.fn.get g = some fi) {caps : List AV} {s : St} {b o n N : Nat} {cap : ACap} {c : PT AV} {tl : Option (Nat × Nat)} (hb : s.h.get b = some (.cells c N tl)) (hw : wr tl = true)
  {l : List β} (hn : l.length = n) (hN : o + n ≤ N) (hc : c.getAll o n = some (l.map mk)) (hsz : n < 4611686018427387904) (h0 : 0 < n) (hok : ∀ x, x ∈ l → ok x)
  (hcmp : ∀ s0, (∀ d o cs, d ≠ b → Rd s d o cs → Rd s0 d o cs) → ∀ x y, ok x → ok y → CallsA P g ([mk x, mk y] ++ caps) s0 fun v _ => v = .int .i64 (cf x y)) :
  CallsA P (ρ.f 6) [.slice b o n cap, .func g [] caps] s fun v s' => v = .tuple [] ∧ ∃ l' : List β, l'.Perm l ∧ l'.Pairwise (fun x y => 0 ≤ cf y x) ∧ s' = { s with h := s.h.set b (.cells (c.setAll o (l'.map mk)) N tl) } := by
 intro φ vals w cs hr hv
 obtain ⟨_, _, _, _, _, _, _, heg⟩ := fnOf_call hD hg
 cases hv with
 | cons hv0 hv =>
 cases hv with
 | cons hv1 hv =>
 cases hv
 cases hv0 with
 | slice hbk hcap =>
 rename_i r sh cp hle
 cases hv1 with
 | func _ hf0 hf1 =>
 rename_i us0 cb
 cases hf0
 obtain ⟨r', sh', arr, ty, fz, q1, q2, q3, q4⟩ := hr.cells hb
 rw [hbk] at q1
 simp only [Option.some.injEq, Prod.mk.injEq] at q1
 obtain ⟨rfl, rfl⟩ := q1
 have hrlt : r < w.heap.size := (Array.getElem?_eq_some_iff.1 q2).1
 have hfz : fz = (0, 0) ∨ arr.size ≤ fz.1 := by
  rcases q4 with ⟨_, q4⟩ | ⟨_, _, _, _, _, _, q4 | q4⟩ | ⟨k, rfl⟩
  ·exact .inl q4
  ·exact .inl q4
  ·exact .inr q4.2
  ·simp [wr] at hw
 obtain ⟨us, u1, u2, u3⟩ := q3.list _ _ _ hN hc
 have hul : us.length = n := by rw [← u1.length, List.length_map]; exact hn
 have hel : ∀ i, i < n → ∃ p : El1 φ mk ok, l[i]? = some p.1.1 ∧ us[i]? = some p.1.2 := by
  intro i hi
  have hi' : i < l.length := by omega
  obtain ⟨u, x1, x2⟩ := u1.get i (mk l[i]) (by simp [hi'])
  exact ⟨⟨(l[i], u), x2, hok _ (List.getElem_mem hi')⟩, List.getElem?_eq_getElem hi', x1⟩
 have hne : Nonempty (El1 φ mk ok) := let ⟨p, _⟩ := hel 0 h0; ⟨p⟩
 haveI : Inhabited (El1 φ mk ok) := ⟨Classical.choice hne⟩
 obtain ⟨dl, d1, d2⟩ := list_choose (l := List.range n) (R := fun i (p : El1 φ mk ok) => l[i]? = some p.1.1 ∧ us[i]? = some p.1.2) fun i hi => hel i (by simpa using hi)
 simp only [List.length_range] at d1
 have d2 : ∀ i (h : i < dl.length), l[i]? = some (dl[i]).1.1 ∧ us[i]? = some (dl[i]).1.2 := fun i h => by
  have := d2 i (by simp; omega) h
  simpa using this
 have hdl : dl.map (fun p => p.1.1) = l := by
  apply List.ext_getElem?
  intro i
  rw [List.getElem?_map]
  by_cases hi : i < dl.length
  ·rw [(d2 i hi).1, List.getElem?_eq_getElem hi]; rfl
  ·rw [List.getElem?_eq_none (by omega), List.getElem?_eq_none (by omega)]; rfl
 let enc : El1 φ mk ok → Value := fun p => p.1.2
 have hone : OneCell enc := fun x => ones_ok (h1 x.1.1) (.cons x.2.1 .nil) _ (List.mem_cons_self ..)
 let d : Array (El1 φ mk ok) := dl.toArray
 have hds : d.size = n := by simp [d, d1]
 have hH : Sort.Holds enc w r (sh + o) d := by
  intro j hj
  rw [hds] at hj
  have hj' : j < dl.length := by omega
  refine ⟨?_, ?_⟩
  ·simp only [World.cell?, q2, Option.isSome_none, Bool.false_eq_true, if_false]
   have h4 := (d2 j hj').2
   have e : d[j]! = dl[j] := by rw [getElem!_pos d j (by omega)]; simp [d]
   rw [e]
   exact u3 j _ h4
  ·simp only [World.frozen?, q2]
   have h3 := q3.1
   rcases hfz with rfl | h
   ·simp
   ·have : ¬ fz.1 ≤ sh + o + j := by omega
    simp [this]
 have hworld : ∀ m (dk : Array (El1 φ mk ok)) os r', r' < w.heap.size → r' ≠ r → (Go.Proofs.sortWorld enc w r (sh + o) m dk os).heap[r']? = w.heap[r']? := by
  intro m dk os r' hr' hne
  unfold Go.Proofs.sortWorld Sort.putRow Sort.mapBlock Sort.grow
  simp only [Sort.ahead]
  rw [Array.getElem?_append_left (by simpa using hr')]
  rw [Array.getElem?_modify, if_neg (Ne.symm hne)]
 have hcmp' : CmpLays1 P g cb.toArray enc (fun x y : El1 φ mk ok => cf x.1.1 y.1.1) r (sh + o) d.size w := by
  intro m os dk hdk x y
  have hrel := hr.rom (W := Go.Proofs.sortWorld enc w r (sh + o) m dk os) (by simp [hb]) hbk (hworld m dk os)
  have hcall := hcmp (romS s b) (fun d o cs hd h => romS_rd hd h) x.1.1 y.1.1 x.2.2 y.2.2
  have hvs : VRs φ (mk x.1.1 :: mk y.1.1 :: caps) (enc x :: enc y :: cb) := .cons x.2.1 (.cons y.2.1 hf1)
  have := CallsA.reads (u := .int .i64 (cf x.1.1 y.1.1)) hcall (fun φ v h => by cases h; rfl) (romS_own s b) hrel φ.q_tight hvs.q
  simpa using this
 have hO' : Sort.SWO (ltOf fun x y : El1 φ mk ok => cf x.1.1 y.1.1) := swo_el (fun x : El1 φ mk ok => x.1.1) hO
 have hsort := Any.slices_SortFunc L enc hone (fun x y : El1 φ mk ok => cf x.1.1 y.1.1) hO' g cb.toArray r (sh + o) cp d w heg hcmp' hH hrlt (by omega)
 rw [hds] at hsort
 obtain ⟨e, w', fr, ⟨rfl, d', m, os, hp, hs, rfl⟩, g1, g2, g3⟩ := hsort cs
 obtain ⟨p1, p2, p3⟩ := hp
 have hd's : d'.size = n := by rw [p1, hds]
 have hd'l : d'.toList.length = n := by simpa using hd's
 let l' := d'.toList.map fun p => p.1.1
 have hl'len : l'.length = n := by simp [l', hd's]
 have hperm : l'.Perm l := by
  have e1 : d'.extract 0 n = d' := by rw [← hd's]; exact Array.extract_size
  have e2 : d.extract 0 n = d := by rw [← hds]; exact Array.extract_size
  rw [e1, e2] at p3
  have := p3.map fun p => p.1.1
  simpa [l', d, hdl] using this
 have hpair : l'.Pairwise fun x y => 0 ≤ cf y x := by
  rw [List.pairwise_iff_getElem]
  intro i j hi hj hij
  have hi' : i < d'.size := by omega
  have hj' : j < d'.size := by omega
  have := hs i j (Nat.zero_le _) hij (by omega)
  rw [getElem!_pos d' _ hj', getElem!_pos d' _ hi'] at this
  simp only [ltOf, decide_eq_false_iff_not] at this
  simp only [l', List.getElem_map, Array.getElem_toList]
  omega
 let arr' := Sort.putCells enc (sh + o) d' arr
 have harr' : arr'.size = arr.size := by simp [arr', Sort.putCells]
 have hcells : CellsR φ sh (c.setAll o (l'.map mk)) N arr' := by
  refine ⟨by rw [harr']; exact q3.1, fun i a hi ha => ?_⟩
  rw [PT.get_setAll, List.length_map, hl'len] at ha
  have hia : sh + i < arr.size := by have := q3.1; omega
  have hget : arr'[sh + i]? = some (if sh + o ≤ sh + i ∧ sh + i < sh + o + n then enc d'[sh + i - (sh + o)]! else arr[sh + i]) := by
   simp only [arr', Sort.putCells, Array.getElem?_mapIdx, Array.getElem?_eq_getElem hia, Option.map_some, hd's]
  by_cases hin : o ≤ i ∧ i < o + n
  ·rw [if_pos hin] at ha
   rw [if_pos (by omega)] at hget
   refine ⟨_, hget, ?_⟩
   obtain ⟨j, rfl⟩ : ∃ j, i = o + j := ⟨i - o, by omega⟩
   have ej : sh + (o + j) - (sh + o) = j := by omega
   rw [ej]
   rw [Nat.add_sub_cancel_left] at ha
   have hj : j < d'.size := by omega
   have e : d'[j]! = d'[j] := getElem!_pos d' j hj
   rw [e]
   have : a = mk (d'[j]).1.1 := by
    simp only [l', List.map_map] at ha
    rw [List.getElem?_map] at ha
    simp [hj] at ha
    exact ha.symm
   rw [this]
   exact (d'[j]).2.1
  ·rw [if_neg hin] at ha
   rw [if_neg (by omega)] at hget
   obtain ⟨v, x1, x2⟩ := q3.2 i a hi ha
   rw [Array.getElem?_eq_getElem hia] at x1
   simp at x1
   subst x1
   exact ⟨_, hget, x2⟩
 have hown : ownB s.h b = true := by
  unfold ownB
  rw [hb]
  unfold wr at hw
  split at hw
  ·simp at hw
  ·rename_i hne
   split
   ·rename_i heq
    simp at heq
    exact absurd heq.2.2 (hne _)
   ·rfl
   ·rename_i heq; simp at heq
 have hput := hr.put_old (b := b) (r := r) (sh := sh) (o := .cells (c.setAll o (l'.map mk)) N tl) (ro := .cells arr' ty fz) hown hbk (by
   rcases q4 with ⟨rfl, rfl⟩ | ⟨k, z, cp, rfl, hk, hs, hf⟩ | ⟨k, rfl⟩
   ·exact .cells hcells
   ·exact .tail hcells hk (by rw [harr']; exact hs) (by rw [harr']; exact hf)
   ·simp [wr] at hw)
  (fun a0 e0 f0 hx => by rw [q2] at hx; simp at hx; obtain ⟨rfl, rfl, rfl⟩ := hx; exact ⟨_, _, rfl, harr'⟩)
 have hweq : Go.Proofs.sortWorld enc w r (sh + o) m d' os = Sort.grow (({ w with heap := w.heap.setIfInBounds r (.cells arr' ty fz) } : World).drewN m) os := by
  unfold Go.Proofs.sortWorld Sort.putRow Sort.mapBlock Sort.ahead World.drewN
  congr 1
  simp only [World.mk.injEq, and_true]
  apply Array.ext_getElem?
  intro i
  rw [Array.getElem?_modify, Array.getElem?_setIfInBounds]
  by_cases e : r = i
  ·subst e
   simp only [if_true, q2, Option.map_some, if_pos hrlt, Sort.onCells, arr']
  ·rw [if_neg e, if_neg e]
 rw [hweq] at g1 g3
 have hkept := Kept.grow ({ w with heap := w.heap.setIfInBounds r (.cells arr' ty fz) } : World) m os
 refine ⟨.tuple [], _, ⟨rfl, l', hperm, hpair, rfl⟩, φ, .tuple #[], _, fr, hput.2.trans (Stp.kept φ _ hkept), hput.1.kept hkept, .tuple .nil, ?_, g2, g3⟩
 exact g1
variable {β : Type}
theorem sorted_unique {R : β → β → Prop} : ∀ {l1 l2 : List β}, l1.Perm l2 → l1.Pairwise R → l2.Pairwise R → (∀ x y, x ∈ l1 → y ∈ l1 → R x y → R y x → x = y) → l1 = l2
 | [], l2, h, _, _, _ => h.nil_eq
 | a :: r1, l2, h, h1, h2, ha => by
  cases l2 with
  | nil => exact absurd h.length_eq (by simp)
  | cons b r2 =>
   have hab : a = b := by
    rcases List.mem_cons.1 (h.mem_iff.1 (List.mem_cons_self ..)) with e | hm
    ·exact e
    ·rcases List.mem_cons.1 (h.mem_iff.2 (List.mem_cons_self ..)) with e | hm'
     ·exact e.symm
     ·exact ha a b (List.mem_cons_self ..) (List.mem_cons_of_mem _ hm') ((List.pairwise_cons.1 h1).1 b hm') ((List.pairwise_cons.1 h2).1 a hm)
   subst hab
   rw [sorted_unique h.cons_inv (List.pairwise_cons.1 h1).2 (List.pairwise_cons.1 h2).2 fun x y hx hy => ha x y (List.mem_cons_of_mem _ hx) (List.mem_cons_of_mem _ hy)]
theorem sorted_exists (cf : β → β → Int) (hO : Sort.SWO (ltOf cf)) (l : List β) : ∃ l' : List β, l'.Perm l ∧ l'.Pairwise fun x y => 0 ≤ cf y x := by
 have hf : ∀ x y, ltOf cf x y = false ↔ 0 ≤ cf x y := fun x y => by simp [ltOf]
 refine ⟨l.mergeSort fun x y => !(ltOf cf y x), List.mergeSort_perm _ _, ?_⟩
 have := List.pairwise_mergeSort (le := fun x y => !(ltOf cf y x)) (fun x y z h1 h2 => by
   simp only [Bool.not_eq_true'] at *
   exact hO.ntrans z y x h2 h1) (fun x y => by
   simp only [Bool.or_eq_true, Bool.not_eq_true']
   cases h1 : ltOf cf y x with
   | false => exact .inl rfl
   | true =>
    right
    cases h2 : ltOf cf x y with
    | false => rfl
    | true => have := hO.trans x y x h2 h1; rw [hO.irrefl x] at this; simp at this) l
 refine this.imp fun {x y} h => ?_
 rw [← hf]
 simpa using h
theorem CallsD.sortSo (hD : TabOk P D) {ρ : Shelf.Ren} (L : SlLaysF.n6 P ρ) (mk : β → AV) (h1 : ∀ x, ones [mk x] = true)
  (ok : β → Prop) (cf : β → β → Int) (hO : Sort.SWO (ltOf cf)) {g : FuncId} {fi : FnI} (hg : D.fn.get g = some fi) {s : St} {x : AV} {l : List β} (hx : So (oneE mk) s x l) (hsz : l.length < 4611686018427387904) (hok : ∀ x, x ∈ l → ok x)
  (htot : ∀ x y, x ∈ l → y ∈ l → 0 ≤ cf x y → 0 ≤ cf y x → x = y)
  (hcmp : ∀ s0, (∀ d o cs, d ∉ blkOf x → Rd s d o cs → Rd s0 d o cs) → ∀ x y, ok x → ok y → CallsA P g [mk x, mk y] s0 fun v _ => v = .int .i64 (cf x y)) :
  CallsD P (ρ.f 6) [x, .func g [] []] s fun v s' => v = .tuple [] ∧ ∃ l' : List β, l'.Perm l ∧ l'.Pairwise (fun x y => 0 ≤ cf y x) ∧ So (oneE mk) s' x l' ∧ Frw (blkOf x) s s' := by
 intro hfr
 rcases hx with ⟨rfl, hcs⟩ | ⟨b, k, n, p, rfl, hlen, hb, hg2⟩
 ·have hnil : l = [] := by
   have := congrArg List.length hcs
   rw [(oneE mk).flat_len] at this
   exact List.length_eq_zero_iff.1 (by simpa [oneE] using this)
  subst hnil
  exact ⟨.tuple [], s, ⟨rfl, [], .refl _, .nil, .inl ⟨rfl, rfl⟩, .refl _ _⟩, Gro.refl hfr, CallsA.sort0 (show SlLaysF0.n6 P ρ from { L with }) (x := .nilslice) rfl⟩
 ·have hflat : ∀ l : List β, l.flatMap (oneE mk).f = l.map mk := fun l => by
   induction l with
   | nil => rfl
   | cons a r ih => simp only [List.flatMap_cons, List.map_cons, ih]; rfl
  rw [hflat] at hlen hg2
  have hn : l.length = n := by simpa [oneE] using hlen
  cases hl : l with
  | nil =>
   subst hl
   have h0 : n = 0 := by simpa using hn.symm
   subst h0
   exact ⟨.tuple [], s, ⟨rfl, [], .refl _, .nil, .inr ⟨b, k, 0, p, rfl, rfl, hb, hg2⟩, .refl _ _⟩, Gro.refl hfr, CallsA.sort0 (show SlLaysF0.n6 P ρ from { L with }) (x := .slice b 0 0 (.var k 0)) rfl⟩
  | cons a r =>
   rw [← hl]
   have h0 : 0 < n := by rw [← hn, hl]; simp
   have hz : (oneE mk).z = 1 := rfl
   rw [hz] at hb hg2
   have hs := CallsA.sort1 hD L mk h1 ok cf hO hg (caps := []) (s := s) (b := b) (o := 0) (n := n) (cap := .var k 0) hb rfl (l := l) hn (by omega) (by simpa using hg2) (by omega) h0 hok fun s0 h => hcmp s0 fun d o cs hd => h d o cs (by simpa [blkOf] using hd)
   obtain ⟨l', q1, q2⟩ := sorted_exists cf hO l
   refine ⟨.tuple [], { s with h := s.h.set b (.cells (p.setAll 0 (l'.map mk)) (n * 1) (some (k, 1))) }, ⟨rfl, l', q1, q2, .inr ⟨b, k, n, p.setAll 0 (l'.map mk), rfl, ?_, ?_, ?_⟩, ⟨fun c o hc ho => ?_, Nat.le_refl _, rfl⟩⟩, Gro.set1 hfr (o' := .cells (p.setAll 0 (l'.map mk)) (n * 1) (some (k, 1))) hb, hs.mono ?_⟩
   ·rw [hflat, List.length_map, q1.length_eq, hn, hz, Nat.mul_one]
   ·simp only [PT.get_set_same]; rw [hz]
   ·rw [hflat]
    refine getAll_of (by rw [List.length_map, q1.length_eq, hn, hz, Nat.mul_one]) fun i hi => ?_
    have hi : i < n := by simpa [oneE] using hi
    rw [PT.get_setAll, if_pos (by rw [List.length_map, q1.length_eq, hn]; omega)]
    simp
   ·have : c ≠ b := by simpa [blkOf] using hc
    simp only [PT.get_set]; rw [if_neg this]; exact ho
   ·rintro _ s' ⟨rfl, l2, r1, r2, rfl⟩
    have : l2 = l' := sorted_unique (r1.trans q1.symm) r2 q2 fun x y hx hy h1 h2 => htot x y (r1.mem_iff.1 hx) (r1.mem_iff.1 hy) h2 h1
    subst this
    exact ⟨rfl, rfl⟩
end
end Go.Eng

