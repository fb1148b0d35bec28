/-
  'CallsSums': the walk over states. (Written by szn.py.)
-/
import Derived.Test.YthjagnpghdcbcaaGreatDoorSZatoSZm
import Derived.Test.YthjagnpghdcbcaaGreatDoorSYatoSYk
import Derived.Test.YthjagnpghdcbcaaGreatDoorSVt
import Derived.Test.YthjagnpghdcbcaaGreatDoorSPe
namespace Go.Eng.S
open Go Go.Eng Go.Proofs
set_option linter.constructorNameAsVariable false
set_option maxRecDepth 8000
noncomputable section
attribute [local irreducible] bsel barsOf mergeB lessB
theorem take_lentB (l : List Bar) : (lentB l).take l.length = l := by simp [lentB]
def addC (p : Bar) : Bar := (p.1, IntKind.wrap .u64 (p.2 + 5))
theorem wrapU_rng (a : Int) : 0 ≤ IntKind.wrap .u64 a ∧ IntKind.wrap .u64 a ≤ M64 := by
 rw [wrap_u64m]; unfold M64; omega
theorem addC_rng {l : List Bar} (h : RngB l) : RngB (l.map addC) := fun p hp => by
 obtain ⟨q, hq, rfl⟩ := List.mem_map.1 hp
 have := wrapU_rng (q.2 + 5)
 exact ⟨(h q hq).1, (h q hq).2.1, this.1, this.2⟩
theorem goneOne {s : St} {b o n : Nat} {cap : ACap} (h : s.h.get b = none) : ∀ d, d ∈ blkOf (.slice b o n cap) → s.h.get d = none := fun d hd => by
 have e : d = b := by simpa [blkOf] using hd
 rw [e]; exact h
theorem one_len (c : CallR) : (oneT c).l.length ≤ 1920 := by simp [oneT]
set_option maxHeartbeats 8000000 in
theorem CallsSums_ok {s : St} {cl : CallR} {t u : Tal} {a b : AV} (hA : Sl barE s a t.l) (hB : Sl barE s b u.l) (hc : cl.Rng) (ht : t.Rng) (hu : u.Rng) (nA : (t.l.length + 3 + (t.l.length + 3) / 4 + 600) * 16 ≤ pow48) (nB : (u.l.length + 3) * 16 ≤ pow48) :
  CallsA P F.spoorlaw14_CallsSums [.agg (callF cl), t.V a, u.V b] s fun v _ => v = .bool true := by
 have nA3 : (t.l.length + 3) * 16 ≤ pow48 := Nat.le_trans (Nat.mul_le_mul_right 16 (by omega)) nA
 have nA9 : t.l.length < 1000000000000000 := by unfold pow48 at nA3; omega
 have nB9 : u.l.length < 1000000000000000 := by unfold pow48 at nB; omega
 have few : ∀ {n : Nat}, n ≤ 1920 → n < 4611686018427387904 := fun h => by omega
 have pl := few (plusU_len ht hu)
 have ml := few (minusU_len ht hu)
 refine vc.spoorlaw14_CallsSums_ok ?_
 intro m1 s2 h2 m3 s4 h4 m5 s6 h6
 have o1 := (h2.own.ext h4.fwd).ext h6.fwd
 have o3 := h4.own.ext h6.fwd
 have o5 := h6.own
 replace hA := hA.ext ((h2.fwd.trans h4.fwd).trans h6.fwd)
 replace hB := hB.ext ((h2.fwd.trans h4.fwd).trans h6.fwd)
 refine (shown_ok s6).mono ?_
 rintro _ s8 ⟨rfl, rfl⟩
 refine ⟨true, rfl, _, _, _, _, _, _, _, o3.all rfl, (lentTally_ok (t := t) hA nA3).mono ?_⟩
 rintro _ sc1 ⟨⟨bx, rfl, ox, gx, fc1⟩, hc1⟩
 have e1 : m1 ≠ bx := fun e => o1.there (by rw [e]; exact gx)
 have e3 : m3 ≠ bx := fun e => o3.there (by rw [e]; exact gx)
 have e5 : m5 ≠ bx := fun e => o5.there (by rw [e]; exact gx)
 have naA : bx ∉ blkOf a := fun h => sl_thereB hA _ h gx
 have naB : bx ∉ blkOf b := fun h => sl_thereB hB _ h gx
 replace o1 := o1.ext fc1
 replace o3 := o3.ext fc1
 replace o5 := o5.ext fc1
 replace hA := hA.ext fc1
 replace hB := hB.ext fc1
 refine ⟨_, _, _, _, _, _, _, _, rfl, ?_⟩
 intro m27 sa2 ha2
 have e27 : m27 ≠ bx := fun e => ox.there (by rw [← e]; exact ha2.gone)
 obtain ⟨sb2, w2, o27, fb2, hb2⟩ := ha2.put (t.C (.slice bx 0 t.l.length (.exact (t.l.length + 3)))) rfl rfl
 replace o1 := o1.ext fb2
 replace o3 := o3.ext fb2
 replace o5 := o5.ext fb2
 replace hA := hA.ext fb2
 replace hB := hB.ext fb2
 replace ox := ox.ext fb2
 refine ⟨sb2, w2, _, _, _, _, _, _, _, o5.all rfl, (lentTally_ok (t := u) hB nB).mono ?_⟩
 rintro _ sc3 ⟨⟨b2, rfl, oy, gy, fc3⟩, hc3⟩
 have hne : b2 ≠ bx := fun e => ox.there (by rw [← e]; exact gy)
 replace o1 := o1.ext fc3
 replace o3 := o3.ext fc3
 replace o5 := o5.ext fc3
 replace hA := hA.ext fc3
 replace hB := hB.ext fc3
 replace ox := ox.ext fc3
 replace o27 := o27.ext fc3
 refine ⟨_, _, _, _, _, _, _, _, rfl, ?_⟩
 intro m47 sa4 ha4
 have e47 : m47 ≠ bx := fun e => ox.there (by rw [← e]; exact ha4.gone)
 obtain ⟨sb4, w4, o47, fb4, hb4⟩ := ha4.put (u.C (.slice b2 0 u.l.length (.exact (u.l.length + 3)))) rfl rfl
 replace o1 := o1.ext fb4
 replace o3 := o3.ext fb4
 replace o5 := o5.ext fb4
 replace hA := hA.ext fb4
 replace hB := hB.ext fb4
 replace ox := ox.ext fb4
 replace o27 := o27.ext fb4
 replace oy := oy.ext fb4
 have bx0 := ox.there
 have fS : Frw [] sb4 sb4 := .refl _ _
 have hO : OutB sb4 sb4 [] := ⟨by simp, .nil, by simp⟩
 refine ⟨sb4, w4, _, _, _, _, _, o1.all rfl, ((One_okO hc).a).mono ?_⟩
 rintro _ sc5 ⟨⟨⟨d1, rfl, od1, gd1⟩, fc5⟩, hc5⟩
 replace hO := hO.add (fun _ h => fS.none h (by simp)) fc5 (show BarO _ (.slice d1 0 1 (.exact 1)) (oneT cl).l from .inr ⟨d1, rfl, od1⟩) (goneOne gd1)
 replace o1 := o1.ext fc5
 replace o3 := o3.ext fc5
 replace o5 := o5.ext fc5
 replace hA := hA.ext fc5
 replace hB := hB.ext fc5
 replace ox := ox.ext fc5
 replace o27 := o27.ext fc5
 replace oy := oy.ext fc5
 replace o47 := o47.ext fc5
 replace fS := fS.trans fc5
 refine ⟨_, _, _, _, _, _, _, rfl, ?_⟩
 intro m64 sa6 ha6
 have e64 : m64 ≠ bx := fun e => ox.there (by rw [← e]; exact ha6.gone)
 obtain ⟨sb6, w6, o64, fb6, hb6⟩ := ha6.put ((oneT cl).C (.slice d1 0 1 (.exact 1))) rfl rfl
 replace o1 := o1.ext fb6
 replace o3 := o3.ext fb6
 replace o5 := o5.ext fb6
 replace hA := hA.ext fb6
 replace hB := hB.ext fb6
 replace ox := ox.ext fb6
 replace o27 := o27.ext fb6
 replace oy := oy.ext fb6
 replace o47 := o47.ext fb6
 replace hO := hO.ext fb6
 replace fS := fS.trans fb6
 refine ⟨sb6, w6, _, _, _, _, _, o1.all rfl, ((One_okO hc).a).mono ?_⟩
 rintro _ sc7 ⟨⟨⟨d2, rfl, od2, gd2⟩, fc7⟩, hc7⟩
 replace hO := hO.add (fun _ h => fS.none h (by simp)) fc7 (show BarO _ (.slice d2 0 1 (.exact 1)) (oneT cl).l from .inr ⟨d2, rfl, od2⟩) (goneOne gd2)
 replace o1 := o1.ext fc7
 replace o3 := o3.ext fc7
 replace o5 := o5.ext fc7
 replace hA := hA.ext fc7
 replace hB := hB.ext fc7
 replace ox := ox.ext fc7
 replace o27 := o27.ext fc7
 replace oy := oy.ext fc7
 replace o47 := o47.ext fc7
 replace o64 := o64.ext fc7
 replace fS := fS.trans fc7
 refine ⟨_, _, _, _, _, _, _, rfl, ?_⟩
 intro m81 sa8 ha8
 have e81 : m81 ≠ bx := fun e => ox.there (by rw [← e]; exact ha8.gone)
 obtain ⟨sb8, w8, o81, fb8, hb8⟩ := ha8.put ((oneT cl).C (.slice d2 0 1 (.exact 1))) rfl rfl
 replace o1 := o1.ext fb8
 replace o3 := o3.ext fb8
 replace o5 := o5.ext fb8
 replace hA := hA.ext fb8
 replace hB := hB.ext fb8
 replace ox := ox.ext fb8
 replace o27 := o27.ext fb8
 replace oy := oy.ext fb8
 replace o47 := o47.ext fb8
 replace hO := hO.ext fb8
 replace o64 := o64.ext fb8
 replace fS := fS.trans fb8
 refine ⟨sb8, w8, _, _, _, _, _, _, _, o27.all rfl, _, _, _, _, _, _, _, o47.all rfl, (Plus_okU (t := t) (u := u) (cutSB ox (by rw [lentB_len]; omega) (take_lentB t.l)) (cutSB oy (by rw [lentB_len]; omega) (take_lentB u.l)) ht hu).mono ?_⟩
 rintro _ sc9 ⟨⟨⟨z3, rfl, qz3, gz3⟩, fc9⟩, hc9⟩
 replace hO := hO.add (fun _ h => fS.none h (by simp)) fc9 (.inl qz3.1) (gz3)
 replace o1 := o1.ext fc9
 replace o3 := o3.ext fc9
 replace o5 := o5.ext fc9
 replace hA := hA.ext fc9
 replace hB := hB.ext fc9
 replace ox := ox.ext fc9
 replace o27 := o27.ext fc9
 replace oy := oy.ext fc9
 replace o47 := o47.ext fc9
 replace o64 := o64.ext fc9
 replace o81 := o81.ext fc9
 replace fS := fS.trans fc9
 refine ⟨_, _, _, _, _, _, _, _, rfl, ?_⟩
 intro m108 sa10 ha10
 have e108 : m108 ≠ bx := fun e => ox.there (by rw [← e]; exact ha10.gone)
 obtain ⟨sb10, w10, o108, fb10, hb10⟩ := ha10.put ((plusU t u).1.C z3) (qz3.1.sl.onesx []) rfl
 replace o1 := o1.ext fb10
 replace o3 := o3.ext fb10
 replace o5 := o5.ext fb10
 replace hA := hA.ext fb10
 replace hB := hB.ext fb10
 replace ox := ox.ext fb10
 replace o27 := o27.ext fb10
 replace oy := oy.ext fb10
 replace o47 := o47.ext fb10
 replace hO := hO.ext fb10
 replace o64 := o64.ext fb10
 replace o81 := o81.ext fb10
 replace fS := fS.trans fb10
 refine ⟨sb10, w10, _, _, _, _, _, _, _, o27.all rfl, _, _, _, _, _, _, _, o47.all rfl, (Minus_okU (t := t) (u := u) (cutSB ox (by rw [lentB_len]; omega) (take_lentB t.l)) (cutSB oy (by rw [lentB_len]; omega) (take_lentB u.l)) ht hu).mono ?_⟩
 rintro _ sc11 ⟨⟨⟨z4, rfl, qz4, gz4⟩, fc11⟩, hc11⟩
 replace hO := hO.add (fun _ h => fS.none h (by simp)) fc11 (.inl qz4.1) (gz4)
 replace o1 := o1.ext fc11
 replace o3 := o3.ext fc11
 replace o5 := o5.ext fc11
 replace hA := hA.ext fc11
 replace hB := hB.ext fc11
 replace ox := ox.ext fc11
 replace o27 := o27.ext fc11
 replace oy := oy.ext fc11
 replace o47 := o47.ext fc11
 replace o64 := o64.ext fc11
 replace o81 := o81.ext fc11
 replace o108 := o108.ext fc11
 replace fS := fS.trans fc11
 refine ⟨_, _, _, _, _, _, _, _, rfl, ?_⟩
 intro m135 sa12 ha12
 have e135 : m135 ≠ bx := fun e => ox.there (by rw [← e]; exact ha12.gone)
 obtain ⟨sb12, w12, o135, fb12, hb12⟩ := ha12.put ((minusU t u).1.C z4) (qz4.1.sl.onesx []) rfl
 replace o1 := o1.ext fb12
 replace o3 := o3.ext fb12
 replace o5 := o5.ext fb12
 replace hA := hA.ext fb12
 replace hB := hB.ext fb12
 replace ox := ox.ext fb12
 replace o27 := o27.ext fb12
 replace oy := oy.ext fb12
 replace o47 := o47.ext fb12
 replace hO := hO.ext fb12
 replace o64 := o64.ext fb12
 replace o81 := o81.ext fb12
 replace o108 := o108.ext fb12
 replace fS := fS.trans fb12
 refine ⟨sb12, w12, _, _, _, _, _, _, _, o27.all rfl, _, _, _, _, _, _, _, o47.all rfl, (Plus_okU (t := t) (u := u) (cutSB ox (by rw [lentB_len]; omega) (take_lentB t.l)) (cutSB oy (by rw [lentB_len]; omega) (take_lentB u.l)) ht hu).mono ?_⟩
 rintro _ sc13 ⟨⟨⟨z5, rfl, qz5, gz5⟩, fc13⟩, hc13⟩
 replace hO := hO.add (fun _ h => fS.none h (by simp)) fc13 (.inl qz5.1) (gz5)
 replace o1 := o1.ext fc13
 replace o3 := o3.ext fc13
 replace o5 := o5.ext fc13
 replace hA := hA.ext fc13
 replace hB := hB.ext fc13
 replace ox := ox.ext fc13
 replace o27 := o27.ext fc13
 replace oy := oy.ext fc13
 replace o47 := o47.ext fc13
 replace o64 := o64.ext fc13
 replace o81 := o81.ext fc13
 replace o108 := o108.ext fc13
 replace o135 := o135.ext fc13
 replace fS := fS.trans fc13
 refine ⟨_, _, _, _, _, _, _, _, rfl, ?_⟩
 intro m162 sa14 ha14
 have e162 : m162 ≠ bx := fun e => ox.there (by rw [← e]; exact ha14.gone)
 obtain ⟨sb14, w14, o162, fb14, hb14⟩ := ha14.put ((plusU t u).1.C z5) (qz5.1.sl.onesx []) rfl
 replace o1 := o1.ext fb14
 replace o3 := o3.ext fb14
 replace o5 := o5.ext fb14
 replace hA := hA.ext fb14
 replace hB := hB.ext fb14
 replace ox := ox.ext fb14
 replace o27 := o27.ext fb14
 replace oy := oy.ext fb14
 replace o47 := o47.ext fb14
 replace hO := hO.ext fb14
 replace o64 := o64.ext fb14
 replace o81 := o81.ext fb14
 replace o108 := o108.ext fb14
 replace o135 := o135.ext fb14
 replace fS := fS.trans fb14
 refine ⟨sb14, w14, _, _, _, _, _, _, _, o27.all rfl, _, _, _, _, _, _, _, o47.all rfl, (Minus_okU (t := t) (u := u) (cutSB ox (by rw [lentB_len]; omega) (take_lentB t.l)) (cutSB oy (by rw [lentB_len]; omega) (take_lentB u.l)) ht hu).mono ?_⟩
 rintro _ sc15 ⟨⟨⟨z6, rfl, qz6, gz6⟩, fc15⟩, hc15⟩
 replace hO := hO.add (fun _ h => fS.none h (by simp)) fc15 (.inl qz6.1) (gz6)
 replace o1 := o1.ext fc15
 replace o3 := o3.ext fc15
 replace o5 := o5.ext fc15
 replace hA := hA.ext fc15
 replace hB := hB.ext fc15
 replace ox := ox.ext fc15
 replace o27 := o27.ext fc15
 replace oy := oy.ext fc15
 replace o47 := o47.ext fc15
 replace o64 := o64.ext fc15
 replace o81 := o81.ext fc15
 replace o108 := o108.ext fc15
 replace o135 := o135.ext fc15
 replace o162 := o162.ext fc15
 replace fS := fS.trans fc15
 refine ⟨_, _, _, _, _, _, _, _, rfl, ?_⟩
 intro m189 sa16 ha16
 have e189 : m189 ≠ bx := fun e => ox.there (by rw [← e]; exact ha16.gone)
 obtain ⟨sb16, w16, o189, fb16, hb16⟩ := ha16.put ((minusU t u).1.C z6) (qz6.1.sl.onesx []) rfl
 replace o1 := o1.ext fb16
 replace o3 := o3.ext fb16
 replace o5 := o5.ext fb16
 replace hA := hA.ext fb16
 replace hB := hB.ext fb16
 replace ox := ox.ext fb16
 replace o27 := o27.ext fb16
 replace oy := oy.ext fb16
 replace o47 := o47.ext fb16
 replace hO := hO.ext fb16
 replace o64 := o64.ext fb16
 replace o81 := o81.ext fb16
 replace o108 := o108.ext fb16
 replace o135 := o135.ext fb16
 replace o162 := o162.ext fb16
 replace fS := fS.trans fb16
 refine ⟨sb16, w16, _, _, _, _, _, _, _, o3.all rfl, _, _, _, _, _, _, _, o5.all rfl, (RPlus_okU (t := t) (u := u) hA hB ht hu).mono ?_⟩
 rintro _ sc17 ⟨⟨⟨w1, rfl, rw1⟩, fc17⟩, hc17⟩
 replace o1 := o1.ext fc17
 replace o3 := o3.ext fc17
 replace o5 := o5.ext fc17
 replace hA := hA.ext fc17
 replace hB := hB.ext fc17
 replace ox := ox.ext fc17
 replace o27 := o27.ext fc17
 replace oy := oy.ext fc17
 replace o47 := o47.ext fc17
 replace hO := hO.ext fc17
 replace o64 := o64.ext fc17
 replace o81 := o81.ext fc17
 replace o108 := o108.ext fc17
 replace o135 := o135.ext fc17
 replace o162 := o162.ext fc17
 replace o189 := o189.ext fc17
 replace fS := fS.trans fc17
 refine ⟨_, _, _, _, _, _, _, _, rfl, ?_⟩
 intro m216 sa18 ha18
 have e216 : m216 ≠ bx := fun e => ox.there (by rw [← e]; exact ha18.gone)
 obtain ⟨sb18, w18, o216, fb18, hb18⟩ := ha18.put ((plusU t u).1.C w1) (rw1.onesx []) rfl
 replace o1 := o1.ext fb18
 replace o3 := o3.ext fb18
 replace o5 := o5.ext fb18
 replace hA := hA.ext fb18
 replace hB := hB.ext fb18
 replace ox := ox.ext fb18
 replace o27 := o27.ext fb18
 replace oy := oy.ext fb18
 replace o47 := o47.ext fb18
 replace hO := hO.ext fb18
 replace o64 := o64.ext fb18
 replace o81 := o81.ext fb18
 replace o108 := o108.ext fb18
 replace o135 := o135.ext fb18
 replace o162 := o162.ext fb18
 replace o189 := o189.ext fb18
 replace rw1 := rw1.ext fb18
 replace fS := fS.trans fb18
 refine ⟨sb18, w18, _, _, _, _, _, _, _, o3.all rfl, _, _, _, _, _, _, _, o5.all rfl, (RMinus_okU (t := t) (u := u) hA hB ht hu).mono ?_⟩
 rintro _ sc19 ⟨⟨⟨w2, rfl, rw2⟩, fc19⟩, hc19⟩
 replace o1 := o1.ext fc19
 replace o3 := o3.ext fc19
 replace o5 := o5.ext fc19
 replace hA := hA.ext fc19
 replace hB := hB.ext fc19
 replace ox := ox.ext fc19
 replace o27 := o27.ext fc19
 replace oy := oy.ext fc19
 replace o47 := o47.ext fc19
 replace hO := hO.ext fc19
 replace o64 := o64.ext fc19
 replace o81 := o81.ext fc19
 replace o108 := o108.ext fc19
 replace o135 := o135.ext fc19
 replace o162 := o162.ext fc19
 replace o189 := o189.ext fc19
 replace rw1 := rw1.ext fc19
 replace o216 := o216.ext fc19
 replace fS := fS.trans fc19
 refine ⟨_, _, _, _, _, _, _, _, rfl, ?_⟩
 intro m243 sa20 ha20
 have e243 : m243 ≠ bx := fun e => ox.there (by rw [← e]; exact ha20.gone)
 obtain ⟨sb20, w20, o243, fb20, hb20⟩ := ha20.put ((minusU t u).1.C w2) (rw2.onesx []) rfl
 replace o1 := o1.ext fb20
 replace o3 := o3.ext fb20
 replace o5 := o5.ext fb20
 replace hA := hA.ext fb20
 replace hB := hB.ext fb20
 replace ox := ox.ext fb20
 replace o27 := o27.ext fb20
 replace oy := oy.ext fb20
 replace o47 := o47.ext fb20
 replace hO := hO.ext fb20
 replace o64 := o64.ext fb20
 replace o81 := o81.ext fb20
 replace o108 := o108.ext fb20
 replace o135 := o135.ext fb20
 replace o162 := o162.ext fb20
 replace o189 := o189.ext fb20
 replace rw1 := rw1.ext fb20
 replace o216 := o216.ext fb20
 replace rw2 := rw2.ext fb20
 replace fS := fS.trans fb20
 refine ⟨sb20, w20, _, _, _, _, _, o1.all rfl, ((ROne_okO hc).a).mono ?_⟩
 rintro _ sc21 ⟨⟨⟨d3, rfl, od3, gd3⟩, fc21⟩, hc21⟩
 replace o1 := o1.ext fc21
 replace o3 := o3.ext fc21
 replace o5 := o5.ext fc21
 replace hA := hA.ext fc21
 replace hB := hB.ext fc21
 replace ox := ox.ext fc21
 replace o27 := o27.ext fc21
 replace oy := oy.ext fc21
 replace o47 := o47.ext fc21
 replace hO := hO.ext fc21
 replace o64 := o64.ext fc21
 replace o81 := o81.ext fc21
 replace o108 := o108.ext fc21
 replace o135 := o135.ext fc21
 replace o162 := o162.ext fc21
 replace o189 := o189.ext fc21
 replace rw1 := rw1.ext fc21
 replace o216 := o216.ext fc21
 replace rw2 := rw2.ext fc21
 replace o243 := o243.ext fc21
 replace fS := fS.trans fc21
 refine ⟨_, _, _, _, _, _, _, rfl, ?_⟩
 intro m260 sa22 ha22
 have e260 : m260 ≠ bx := fun e => ox.there (by rw [← e]; exact ha22.gone)
 obtain ⟨sb22, w22, o260, fb22, hb22⟩ := ha22.put ((oneT cl).C (.slice d3 0 1 (.exact 1))) rfl rfl
 replace o1 := o1.ext fb22
 replace o3 := o3.ext fb22
 replace o5 := o5.ext fb22
 replace hA := hA.ext fb22
 replace hB := hB.ext fb22
 replace ox := ox.ext fb22
 replace o27 := o27.ext fb22
 replace oy := oy.ext fb22
 replace o47 := o47.ext fb22
 replace hO := hO.ext fb22
 replace o64 := o64.ext fb22
 replace o81 := o81.ext fb22
 replace o108 := o108.ext fb22
 replace o135 := o135.ext fb22
 replace o162 := o162.ext fb22
 replace o189 := o189.ext fb22
 replace rw1 := rw1.ext fb22
 replace o216 := o216.ext fb22
 replace rw2 := rw2.ext fb22
 replace o243 := o243.ext fb22
 replace od3 := od3.ext fb22
 replace fS := fS.trans fb22
 have r3 : ∀ {s : St}, Own s d3 [.int .i64 (idxN cl.took.toNat : Int), .int .u64 1] → Sl barE s (.slice d3 0 1 (.exact 1)) (oneT cl).l := fun h => .inr ⟨d3, 0, 1, _, rfl, rfl, h.rd⟩
 refine ⟨sb22, w22, _, _, _, _, _, _, _, o64.all rfl, _, _, _, _, _, _, _, o260.all rfl, ((sameTally_ok (t := oneT cl) ((hO.so (AV.slice d1 0 1 (.exact 1), (oneT cl).l) (by simp)).sl) (r3 od3) (few (one_len cl))).a).mono ?_⟩
 rintro _ sc23 ⟨⟨rfl, fc23⟩, hc23⟩
 replace o1 := o1.ext fc23
 replace o3 := o3.ext fc23
 replace o5 := o5.ext fc23
 replace hA := hA.ext fc23
 replace hB := hB.ext fc23
 replace ox := ox.ext fc23
 replace o27 := o27.ext fc23
 replace oy := oy.ext fc23
 replace o47 := o47.ext fc23
 replace hO := hO.ext fc23
 replace o64 := o64.ext fc23
 replace o81 := o81.ext fc23
 replace o108 := o108.ext fc23
 replace o135 := o135.ext fc23
 replace o162 := o162.ext fc23
 replace o189 := o189.ext fc23
 replace rw1 := rw1.ext fc23
 replace o216 := o216.ext fc23
 replace rw2 := rw2.ext fc23
 replace o243 := o243.ext fc23
 replace od3 := od3.ext fc23
 replace o260 := o260.ext fc23
 replace fS := fS.trans fc23
 refine ⟨true, rfl, _, _, _, _, _, _, _, o81.all rfl, _, _, _, _, _, _, _, o260.all rfl, ((sameTally_ok (t := oneT cl) ((hO.so (AV.slice d2 0 1 (.exact 1), (oneT cl).l) (by simp)).sl) (r3 od3) (few (one_len cl))).a).mono ?_⟩
 rintro _ sc24 ⟨⟨rfl, fc24⟩, hc24⟩
 replace o1 := o1.ext fc24
 replace o3 := o3.ext fc24
 replace o5 := o5.ext fc24
 replace hA := hA.ext fc24
 replace hB := hB.ext fc24
 replace ox := ox.ext fc24
 replace o27 := o27.ext fc24
 replace oy := oy.ext fc24
 replace o47 := o47.ext fc24
 replace hO := hO.ext fc24
 replace o64 := o64.ext fc24
 replace o81 := o81.ext fc24
 replace o108 := o108.ext fc24
 replace o135 := o135.ext fc24
 replace o162 := o162.ext fc24
 replace o189 := o189.ext fc24
 replace rw1 := rw1.ext fc24
 replace o216 := o216.ext fc24
 replace rw2 := rw2.ext fc24
 replace o243 := o243.ext fc24
 replace od3 := od3.ext fc24
 replace o260 := o260.ext fc24
 replace fS := fS.trans fc24
 refine ⟨true, rfl, _, _, _, _, _, _, _, o108.all rfl, _, _, _, _, _, _, _, o216.all rfl, ((sameTally_ok (t := (plusU t u).1) ((hO.so (z3, (plusU t u).1.l) (by simp)).sl) rw1 pl).a).mono ?_⟩
 rintro _ sc25 ⟨⟨rfl, fc25⟩, hc25⟩
 replace o1 := o1.ext fc25
 replace o3 := o3.ext fc25
 replace o5 := o5.ext fc25
 replace hA := hA.ext fc25
 replace hB := hB.ext fc25
 replace ox := ox.ext fc25
 replace o27 := o27.ext fc25
 replace oy := oy.ext fc25
 replace o47 := o47.ext fc25
 replace hO := hO.ext fc25
 replace o64 := o64.ext fc25
 replace o81 := o81.ext fc25
 replace o108 := o108.ext fc25
 replace o135 := o135.ext fc25
 replace o162 := o162.ext fc25
 replace o189 := o189.ext fc25
 replace rw1 := rw1.ext fc25
 replace o216 := o216.ext fc25
 replace rw2 := rw2.ext fc25
 replace o243 := o243.ext fc25
 replace od3 := od3.ext fc25
 replace o260 := o260.ext fc25
 replace fS := fS.trans fc25
 refine ⟨true, rfl, _, _, _, _, _, _, _, o135.all rfl, _, _, _, _, _, _, _, o243.all rfl, ((sameTally_ok (t := (minusU t u).1) ((hO.so (z4, (minusU t u).1.l) (by simp)).sl) rw2 ml).a).mono ?_⟩
 rintro _ sc26 ⟨⟨rfl, fc26⟩, hc26⟩
 replace o1 := o1.ext fc26
 replace o3 := o3.ext fc26
 replace o5 := o5.ext fc26
 replace hA := hA.ext fc26
 replace hB := hB.ext fc26
 replace ox := ox.ext fc26
 replace o27 := o27.ext fc26
 replace oy := oy.ext fc26
 replace o47 := o47.ext fc26
 replace hO := hO.ext fc26
 replace o64 := o64.ext fc26
 replace o81 := o81.ext fc26
 replace o108 := o108.ext fc26
 replace o135 := o135.ext fc26
 replace o162 := o162.ext fc26
 replace o189 := o189.ext fc26
 replace rw1 := rw1.ext fc26
 replace o216 := o216.ext fc26
 replace rw2 := rw2.ext fc26
 replace o243 := o243.ext fc26
 replace od3 := od3.ext fc26
 replace o260 := o260.ext fc26
 replace fS := fS.trans fc26
 refine ⟨true, rfl, _, _, _, _, _, _, _, o162.all rfl, _, _, _, _, _, _, _, o216.all rfl, ((sameTally_ok (t := (plusU t u).1) ((hO.so (z5, (plusU t u).1.l) (by simp)).sl) rw1 pl).a).mono ?_⟩
 rintro _ sc27 ⟨⟨rfl, fc27⟩, hc27⟩
 replace o1 := o1.ext fc27
 replace o3 := o3.ext fc27
 replace o5 := o5.ext fc27
 replace hA := hA.ext fc27
 replace hB := hB.ext fc27
 replace ox := ox.ext fc27
 replace o27 := o27.ext fc27
 replace oy := oy.ext fc27
 replace o47 := o47.ext fc27
 replace hO := hO.ext fc27
 replace o64 := o64.ext fc27
 replace o81 := o81.ext fc27
 replace o108 := o108.ext fc27
 replace o135 := o135.ext fc27
 replace o162 := o162.ext fc27
 replace o189 := o189.ext fc27
 replace rw1 := rw1.ext fc27
 replace o216 := o216.ext fc27
 replace rw2 := rw2.ext fc27
 replace o243 := o243.ext fc27
 replace od3 := od3.ext fc27
 replace o260 := o260.ext fc27
 replace fS := fS.trans fc27
 refine ⟨true, rfl, _, _, _, _, _, _, _, o189.all rfl, _, _, _, _, _, _, _, o243.all rfl, ((sameTally_ok (t := (minusU t u).1) ((hO.so (z6, (minusU t u).1.l) (by simp)).sl) rw2 ml).a).mono ?_⟩
 rintro _ sc28 ⟨⟨rfl, fc28⟩, hc28⟩
 replace o1 := o1.ext fc28
 replace o3 := o3.ext fc28
 replace o5 := o5.ext fc28
 replace hA := hA.ext fc28
 replace hB := hB.ext fc28
 replace ox := ox.ext fc28
 replace o27 := o27.ext fc28
 replace oy := oy.ext fc28
 replace o47 := o47.ext fc28
 replace hO := hO.ext fc28
 replace o64 := o64.ext fc28
 replace o81 := o81.ext fc28
 replace o108 := o108.ext fc28
 replace o135 := o135.ext fc28
 replace o162 := o162.ext fc28
 replace o189 := o189.ext fc28
 replace rw1 := rw1.ext fc28
 replace o216 := o216.ext fc28
 replace rw2 := rw2.ext fc28
 replace o243 := o243.ext fc28
 replace od3 := od3.ext fc28
 replace o260 := o260.ext fc28
 replace fS := fS.trans fc28
 refine ⟨true, rfl, fun s _ => Frw [] sc28 s ∧ Fr s, ⟨fun c s _ => c = false ∧ Frw [] sc28 s ∧ Fr s, ?_, ?_⟩, ?_⟩
 ·intro s367 hB7
  replace o3 := o3.ext hB7.fwd
  refine bsel_of (fun c => by simp at c) fun _ => bsel_of (fun c => by simp at c) fun _ => bsel_of (fun c => by simp at c) fun _ => bsel_of (fun c => by simp at c) fun _ => bsel_of (fun c => by simp at c) fun _ => bsel_of (fun c => by simp at c) fun _ => bsel_of (fun c => by simp at c) fun _ => bsel_of (fun c => by simp at c) fun _ => bsel_of (fun c => by simp at c) fun _ => bsel_of (fun c => by simp at c) fun _ => bsel_of (fun c => by simp at c) fun _ => ?_
  refine ⟨_, _, o3.ldN 4 2 (by simp), (Cap_ok t.c ht.c s367).mono ?_⟩
  rintro _ _ ⟨rfl, rfl⟩
  refine ⟨_, rfl, _, _, o3.ldN 4 2 (by simp), o3.ldN 4 2 (by simp), (RCap_ok t.c _).mono ?_⟩
  rintro _ _ ⟨rfl, rfl⟩
  exact ⟨_, rfl, 0, by simp, hB7.fwd, hB7.fr⟩
 ·rintro _ s391 _ ⟨rfl, f391, hfr391⟩
  exact bsel_of (fun c => by simp at c) fun _ => ⟨0, f391, hfr391⟩
 rintro s394 _ ⟨f394, hfr394⟩
 replace o1 := o1.ext f394
 replace o3 := o3.ext f394
 replace o5 := o5.ext f394
 replace hA := hA.ext f394
 replace hB := hB.ext f394
 replace ox := ox.ext f394
 replace o27 := o27.ext f394
 replace oy := oy.ext f394
 replace o47 := o47.ext f394
 replace hO := hO.ext f394
 replace o64 := o64.ext f394
 replace o81 := o81.ext f394
 replace o108 := o108.ext f394
 replace o135 := o135.ext f394
 replace o162 := o162.ext f394
 replace o189 := o189.ext f394
 replace rw1 := rw1.ext f394
 replace o216 := o216.ext f394
 replace rw2 := rw2.ext f394
 replace o243 := o243.ext f394
 replace od3 := od3.ext f394
 replace o260 := o260.ext f394
 replace fS := fS.trans f394
 refine ⟨a, o3.ld1 6 rfl, (barsStay_ok ox rfl hA nA9).mono ?_⟩
 rintro _ s398 ⟨⟨rfl, f398⟩, hfr398⟩
 replace o1 := o1.ext f398
 replace o3 := o3.ext f398
 replace o5 := o5.ext f398
 replace hA := hA.ext f398
 replace hB := hB.ext f398
 replace ox := ox.ext f398
 replace o27 := o27.ext f398
 replace oy := oy.ext f398
 replace o47 := o47.ext f398
 replace hO := hO.ext f398
 replace o64 := o64.ext f398
 replace o81 := o81.ext f398
 replace o108 := o108.ext f398
 replace o135 := o135.ext f398
 replace o162 := o162.ext f398
 replace o189 := o189.ext f398
 replace rw1 := rw1.ext f398
 replace o216 := o216.ext f398
 replace rw2 := rw2.ext f398
 replace o243 := o243.ext f398
 replace od3 := od3.ext f398
 replace o260 := o260.ext f398
 replace fS := fS.trans f398
 refine ⟨true, rfl, b, o5.ld1 6 rfl, (barsStay_ok oy rfl hB nB9).mono ?_⟩
 rintro _ s402 ⟨⟨rfl, f402⟩, hfr402⟩
 replace o1 := o1.ext f402
 replace o3 := o3.ext f402
 replace o5 := o5.ext f402
 replace hA := hA.ext f402
 replace hB := hB.ext f402
 replace ox := ox.ext f402
 replace o27 := o27.ext f402
 replace oy := oy.ext f402
 replace o47 := o47.ext f402
 replace hO := hO.ext f402
 replace o64 := o64.ext f402
 replace o81 := o81.ext f402
 replace o108 := o108.ext f402
 replace o135 := o135.ext f402
 replace o162 := o162.ext f402
 replace o189 := o189.ext f402
 replace rw1 := rw1.ext f402
 replace o216 := o216.ext f402
 replace rw2 := rw2.ext f402
 replace o243 := o243.ext f402
 replace od3 := od3.ext f402
 replace o260 := o260.ext f402
 replace fS := fS.trans f402
 refine ⟨true, rfl, fun n s m => ∃ (i : Nat) (M : List Bar), n = i ∧ i ≤ t.l.length ∧ m = t.l.length - i ∧ M.length = t.l.length + 3 ∧ (∀ j, M[j]? = if j < i then (t.l[j]?).map addC else (lentB t.l)[j]?) ∧ Own s bx (M.flatMap barE.f) ∧ Frw [bx] s402 s ∧ Fr s,
  ⟨_, 0, lentB t.l, rfl, by omega, rfl, lentB_len t.l, fun j => by rw [if_neg (by omega)], ox, .refl _ _, hfr402⟩, ?_⟩
 rintro _ s407 m408 ⟨i, M, rfl, hi, hm, hM, hMj, oM, f407, hfr407⟩
 have nb : ∀ {m : Nat}, m ≠ bx → m ∉ [bx] := fun h h' => h (by simpa using h')
 refine ⟨a, (o3.fwd f407 (nb e3)).ld1 6 rfl, hA.slen (bsel_of (fun c => ?_) fun c => ?_)⟩
 ·have c : i < t.l.length := by have := of_decide_eq_true c; omega
  have hiM : i < M.length := by omega
  have hMi : M[i] = t.l[i] := by
   have := hMj i
   rw [if_neg (by omega), lentB_old c, List.getElem?_eq_getElem hiM] at this
   simpa using this
  have hsl : Sl barE s407 (.slice bx 0 (t.l.length + 3) (.exact (t.l.length + 3))) M := .inr ⟨bx, 0, _, _, rfl, by rw [barE.flat_len, hM], oM.rd⟩
  refine hsl.ixs rfl rfl hiM fun b o hR => ⟨_, hR.ld1 1 rfl, ?_⟩
  refine ⟨by omega, by omega, ?_⟩
  rw [mulS_eq, Int.toNat_natCast, Nat.zero_add]
  have hlen : (M.flatMap barE.f).length = (t.l.length + 3) * 2 := by rw [barE.flat_len, hM]; rfl
  obtain ⟨s4', w1, w2, w3, w4, w5, w6⟩ := oM.wrN (i * 2 + 1) [.int .u64 (addC M[i]).2] rfl (by rw [hlen]; simp; omega)
  refine ⟨s4', w1, t.l.length - (i + 1), by omega, i + 1, M.set i (addC M[i]), succ_i (by omega), by omega, rfl, by simp [hM], fun j => ?_, ?_, f407.trans w3, hfr407.wr oM.there w4 w6⟩
  ·by_cases e : j = i
   ·subst e
    rw [List.getElem?_set_self hiM, if_pos (by omega), List.getElem?_eq_getElem c, hMi]; rfl
   ·rw [List.getElem?_set_ne (Ne.symm e), hMj j]
    by_cases h : j < i
    ·rw [if_pos h, if_pos (by omega)]
    ·rw [if_neg h, if_neg (by omega)]
  ·have := barE.flat_set (l := M) (k := i) hiM (j := 1) (vs := [.int .u64 (addC M[i]).2]) (a := addC M[i]) (by simp [barE]) rfl
   rw [← this]
   exact w2
 have c : i = t.l.length := by have := of_decide_eq_false c; omega
 subst c
 have tM : M.take t.l.length = t.l.map addC := List.ext_getElem? fun j => by
  by_cases h : j < t.l.length
  ·rw [List.getElem?_take_of_lt h, hMj j, if_pos h, List.getElem?_map]
  ·rw [List.getElem?_eq_none (by rw [List.length_take]; omega), List.getElem?_eq_none (by rw [List.length_map]; omega)]
 have hlM : t.l.length ≤ M.length := by omega
 have hlen2 : (t.l.map addC).length = t.l.length := List.length_map _
 have ht2 : (⟨t.a, t.b, t.c, t.l.map addC⟩ : Tal).Rng := ⟨ht.a, ht.b, ht.c, addC_rng ht.l⟩
 have pl2 := few (plusU_len ht2 hu)
 have ml2 := few (minusU_len ht2 hu)
 have fL : Frw [bx] sb4 s407 := (fS.mono (by simp)).trans f407
 replace o1 := o1.fwd f407 (nb e1)
 replace o3 := o3.fwd f407 (nb e3)
 replace o5 := o5.fwd f407 (nb e5)
 replace hA := hA.beside f407 (fun c hc => .inr (by rw [show c = bx by simpa using hc]; exact naA))
 replace hB := hB.beside f407 (fun c hc => .inr (by rw [show c = bx by simpa using hc]; exact naB))
 replace o27 := o27.fwd f407 (nb e27)
 replace oy := oy.fwd f407 (nb hne)
 replace o47 := o47.fwd f407 (nb e47)
 replace hO := hO.fwd f407 (fun c hc => by rw [show c = bx by simpa using hc]; exact bx0)
 replace o64 := o64.fwd f407 (nb e64)
 replace o81 := o81.fwd f407 (nb e81)
 replace o108 := o108.fwd f407 (nb e108)
 replace o135 := o135.fwd f407 (nb e135)
 replace o162 := o162.fwd f407 (nb e162)
 replace o189 := o189.fwd f407 (nb e189)
 replace o216 := o216.fwd f407 (nb e216)
 replace o243 := o243.fwd f407 (nb e243)
 replace o260 := o260.fwd f407 (nb e260)
 replace ox := oM
 intro s418 hB8
 replace o1 := o1.ext hB8.fwd
 replace o3 := o3.ext hB8.fwd
 replace o5 := o5.ext hB8.fwd
 replace hA := hA.ext hB8.fwd
 replace hB := hB.ext hB8.fwd
 replace o27 := o27.ext hB8.fwd
 replace oy := oy.ext hB8.fwd
 replace o47 := o47.ext hB8.fwd
 replace hO := hO.ext hB8.fwd
 replace o64 := o64.ext hB8.fwd
 replace o81 := o81.ext hB8.fwd
 replace o108 := o108.ext hB8.fwd
 replace o135 := o135.ext hB8.fwd
 replace o162 := o162.ext hB8.fwd
 replace o189 := o189.ext hB8.fwd
 replace o216 := o216.ext hB8.fwd
 replace o243 := o243.ext hB8.fwd
 replace o260 := o260.ext hB8.fwd
 replace ox := ox.ext hB8.fwd
 replace fL := fL.trans (hB8.fwd.mono (by simp))
 have gone6 : s418.h.get (s407.nx + 6) = none := hB8.free
 have gone14 : s418.h.get (s407.nx + 14) = none := hB8.free
 have hnx : s418.nx = s407.nx + 16 := hB8.lt
 have f6 := hsetS_fwd (o := cellsO []) gone6
 have own6 := hsetS_own (s := s418) (b := s407.nx + 6) (cs := [])
 have fr6 := hsetS_fr (o := cellsO []) hB8.fr (show s407.nx + 6 < s418.nx by omega)
 have gone14' : (hsetS s418 (s407.nx + 6) (cellsO [])).h.get (s407.nx + 14) = none := by
  simp only [hsetS, PT.get_set]; rw [if_neg (by omega)]; exact gone14
 have hnx' : (hsetS s418 (s407.nx + 6) (cellsO [])).nx = s407.nx + 16 := hnx
 refine ⟨_, _, o3.ldN 0 2 (by simp), _, _, o3.ldN 2 2 (by simp), _, _, o3.ldN 4 2 (by simp), a, o3.ld1 6 rfl, hA.slen (tkV cutB ?_)⟩
 obtain ⟨x428, s429, q1, q2, q3, q4, q5⟩ := appendAll0 (E := barE) (D := D) (t := T.sl_api_Bar) own6 (cutSB (ox.ext f6) hlM tM) ty.sl_api_Bar rfl ty.api_Bar rfl rfl rfl (fun a _ => rfl) (by rw [hlen2]; exact Nat.le_trans (Nat.mul_le_mul_right 16 (by omega)) nA) (by rw [hlen2]; exact Nat.le_trans (by omega) nA3) fr6
 have hG := appendX_gro fr6 q1
 have gone14a : s429.h.get (s407.nx + 14) = none := hG.2.2 _ (by omega) gone14'
 have h14lt : s407.nx + 14 < s429.nx := by have := hG.2.1; omega
 replace o1 := o1.ext (f6.trans q4)
 replace o3 := o3.ext (f6.trans q4)
 replace o5 := o5.ext (f6.trans q4)
 replace hA := hA.ext (f6.trans q4)
 replace hB := hB.ext (f6.trans q4)
 replace o27 := o27.ext (f6.trans q4)
 replace oy := oy.ext (f6.trans q4)
 replace o47 := o47.ext (f6.trans q4)
 replace hO := hO.ext (f6.trans q4)
 replace o64 := o64.ext (f6.trans q4)
 replace o81 := o81.ext (f6.trans q4)
 replace o108 := o108.ext (f6.trans q4)
 replace o135 := o135.ext (f6.trans q4)
 replace o162 := o162.ext (f6.trans q4)
 replace o189 := o189.ext (f6.trans q4)
 replace o216 := o216.ext (f6.trans q4)
 replace o243 := o243.ext (f6.trans q4)
 replace o260 := o260.ext (f6.trans q4)
 replace ox := ox.ext (f6.trans q4)
 replace fL := fL.trans ((f6.trans q4).mono (by simp))
 have f14 := hsetS_fwd (o := cellsO [.int .u64 0, .int .u64 0, .int .u64 0, .int .u64 0, .int .u64 0, .int .u64 0, .nilslice]) gone14a
 have own14 := hsetS_own (s := s429) (b := s407.nx + 14) (cs := [.int .u64 0, .int .u64 0, .int .u64 0, .int .u64 0, .int .u64 0, .int .u64 0, .nilslice])
 have fr14 := hsetS_fr (o := cellsO [.int .u64 0, .int .u64 0, .int .u64 0, .int .u64 0, .int .u64 0, .int .u64 0, .nilslice]) q5 h14lt
 obtain ⟨s430, v1, o14, v3, v4, v5, v6⟩ := own14.wrAll ((⟨t.a, t.b, t.c, t.l.map addC⟩ : Tal).C x428) (q2.onesx []) rfl
 have fr430 := fr14.wr own14.there v4 v6
 have f430 : Frw [] s429 s430 := f14.step v3 fun c hc => by
  have e : c = s407.nx + 14 := by simpa using hc
  rw [e]; exact gone14a
 refine ⟨x428, s429, q1, o3.ldN 4 2 (by simp), o3.ldN 2 2 (by simp), o3.ldN 0 2 (by simp), q2.one ⟨s430, v1, ?_⟩⟩
 replace o1 := o1.ext f430
 replace o3 := o3.ext f430
 replace o5 := o5.ext f430
 replace hA := hA.ext f430
 replace hB := hB.ext f430
 replace o27 := o27.ext f430
 replace oy := oy.ext f430
 replace o47 := o47.ext f430
 replace hO := hO.ext f430
 replace o64 := o64.ext f430
 replace o81 := o81.ext f430
 replace o108 := o108.ext f430
 replace o135 := o135.ext f430
 replace o162 := o162.ext f430
 replace o189 := o189.ext f430
 replace o216 := o216.ext f430
 replace o243 := o243.ext f430
 replace o260 := o260.ext f430
 replace ox := ox.ext f430
 replace fL := fL.trans (f430.mono (by simp))
 replace q2 := q2.ext f430
 refine ⟨_, _, _, _, _, _, _, o27.all rfl, _, _, _, _, _, _, _, o47.all rfl, (Plus_okU (t := (⟨t.a, t.b, t.c, t.l.map addC⟩ : Tal)) (u := u) (cutSB ox hlM tM) (cutSB oy (by rw [lentB_len]; omega) (take_lentB u.l)) ht2 hu).mono ?_⟩
 rintro _ sc29 ⟨⟨⟨z7, rfl, qz7, gz7⟩, fc29⟩, hc29⟩
 replace hO := hO.add (fun d hd => fL.none hd (nb fun e => ox.there (by rw [← e]; exact hd))) fc29 (.inl qz7.1) gz7
 replace o1 := o1.ext fc29
 replace o3 := o3.ext fc29
 replace o5 := o5.ext fc29
 replace hA := hA.ext fc29
 replace hB := hB.ext fc29
 replace o27 := o27.ext fc29
 replace oy := oy.ext fc29
 replace o47 := o47.ext fc29
 replace o64 := o64.ext fc29
 replace o81 := o81.ext fc29
 replace o108 := o108.ext fc29
 replace o135 := o135.ext fc29
 replace o162 := o162.ext fc29
 replace o189 := o189.ext fc29
 replace o216 := o216.ext fc29
 replace o243 := o243.ext fc29
 replace o260 := o260.ext fc29
 replace ox := ox.ext fc29
 replace q2 := q2.ext fc29
 replace o14 := o14.ext fc29
 replace fL := fL.trans (fc29.mono (by simp))
 refine ⟨_, _, _, _, _, _, _, _, rfl, ?_⟩
 intro m455 sa30 ha30
 obtain ⟨sb30, w30, o455, fb30, hb30⟩ := ha30.put ((plusU (⟨t.a, t.b, t.c, t.l.map addC⟩ : Tal) u).1.C z7) (qz7.1.sl.onesx []) rfl
 replace o1 := o1.ext fb30
 replace o3 := o3.ext fb30
 replace o5 := o5.ext fb30
 replace hA := hA.ext fb30
 replace hB := hB.ext fb30
 replace o27 := o27.ext fb30
 replace oy := oy.ext fb30
 replace o47 := o47.ext fb30
 replace o64 := o64.ext fb30
 replace o81 := o81.ext fb30
 replace o108 := o108.ext fb30
 replace o135 := o135.ext fb30
 replace o162 := o162.ext fb30
 replace o189 := o189.ext fb30
 replace o216 := o216.ext fb30
 replace o243 := o243.ext fb30
 replace o260 := o260.ext fb30
 replace ox := ox.ext fb30
 replace q2 := q2.ext fb30
 replace o14 := o14.ext fb30
 replace hO := hO.ext fb30
 replace fL := fL.trans (fb30.mono (by simp))
 refine ⟨sb30, w30, _, _, _, _, _, _, _, o27.all rfl, _, _, _, _, _, _, _, o47.all rfl, (Minus_okU (t := (⟨t.a, t.b, t.c, t.l.map addC⟩ : Tal)) (u := u) (cutSB ox hlM tM) (cutSB oy (by rw [lentB_len]; omega) (take_lentB u.l)) ht2 hu).mono ?_⟩
 rintro _ sc31 ⟨⟨⟨z8, rfl, qz8, gz8⟩, fc31⟩, hc31⟩
 replace hO := hO.add (fun d hd => fL.none hd (nb fun e => ox.there (by rw [← e]; exact hd))) fc31 (.inl qz8.1) gz8
 replace o1 := o1.ext fc31
 replace o3 := o3.ext fc31
 replace o5 := o5.ext fc31
 replace hA := hA.ext fc31
 replace hB := hB.ext fc31
 replace o27 := o27.ext fc31
 replace oy := oy.ext fc31
 replace o47 := o47.ext fc31
 replace o64 := o64.ext fc31
 replace o81 := o81.ext fc31
 replace o108 := o108.ext fc31
 replace o135 := o135.ext fc31
 replace o162 := o162.ext fc31
 replace o189 := o189.ext fc31
 replace o216 := o216.ext fc31
 replace o243 := o243.ext fc31
 replace o260 := o260.ext fc31
 replace ox := ox.ext fc31
 replace q2 := q2.ext fc31
 replace o14 := o14.ext fc31
 replace o455 := o455.ext fc31
 replace fL := fL.trans (fc31.mono (by simp))
 refine ⟨_, _, _, _, _, _, _, _, rfl, ?_⟩
 intro m482 sa32 ha32
 obtain ⟨sb32, w32, o482, fb32, hb32⟩ := ha32.put ((minusU (⟨t.a, t.b, t.c, t.l.map addC⟩ : Tal) u).1.C z8) (qz8.1.sl.onesx []) rfl
 replace o1 := o1.ext fb32
 replace o3 := o3.ext fb32
 replace o5 := o5.ext fb32
 replace hA := hA.ext fb32
 replace hB := hB.ext fb32
 replace o27 := o27.ext fb32
 replace oy := oy.ext fb32
 replace o47 := o47.ext fb32
 replace o64 := o64.ext fb32
 replace o81 := o81.ext fb32
 replace o108 := o108.ext fb32
 replace o135 := o135.ext fb32
 replace o162 := o162.ext fb32
 replace o189 := o189.ext fb32
 replace o216 := o216.ext fb32
 replace o243 := o243.ext fb32
 replace o260 := o260.ext fb32
 replace ox := ox.ext fb32
 replace q2 := q2.ext fb32
 replace o14 := o14.ext fb32
 replace o455 := o455.ext fb32
 replace hO := hO.ext fb32
 replace fL := fL.trans (fb32.mono (by simp))
 refine ⟨sb32, w32, _, _, _, _, _, _, _, o14.all rfl, _, _, _, _, _, _, _, o5.all rfl, (RPlus_okU (t := (⟨t.a, t.b, t.c, t.l.map addC⟩ : Tal)) (u := u) q2 hB ht2 hu).mono ?_⟩
 rintro _ sc33 ⟨⟨⟨w4, rfl, rw4⟩, fc33⟩, hc33⟩
 replace o1 := o1.ext fc33
 replace o3 := o3.ext fc33
 replace o5 := o5.ext fc33
 replace hA := hA.ext fc33
 replace hB := hB.ext fc33
 replace o27 := o27.ext fc33
 replace oy := oy.ext fc33
 replace o47 := o47.ext fc33
 replace o64 := o64.ext fc33
 replace o81 := o81.ext fc33
 replace o108 := o108.ext fc33
 replace o135 := o135.ext fc33
 replace o162 := o162.ext fc33
 replace o189 := o189.ext fc33
 replace o216 := o216.ext fc33
 replace o243 := o243.ext fc33
 replace o260 := o260.ext fc33
 replace ox := ox.ext fc33
 replace q2 := q2.ext fc33
 replace o14 := o14.ext fc33
 replace o455 := o455.ext fc33
 replace hO := hO.ext fc33
 replace o482 := o482.ext fc33
 replace fL := fL.trans (fc33.mono (by simp))
 refine ⟨_, _, _, _, _, _, _, _, rfl, ?_⟩
 intro m509 sa34 ha34
 obtain ⟨sb34, w34, o509, fb34, hb34⟩ := ha34.put ((plusU (⟨t.a, t.b, t.c, t.l.map addC⟩ : Tal) u).1.C w4) (rw4.onesx []) rfl
 replace o1 := o1.ext fb34
 replace o3 := o3.ext fb34
 replace o5 := o5.ext fb34
 replace hA := hA.ext fb34
 replace hB := hB.ext fb34
 replace o27 := o27.ext fb34
 replace oy := oy.ext fb34
 replace o47 := o47.ext fb34
 replace o64 := o64.ext fb34
 replace o81 := o81.ext fb34
 replace o108 := o108.ext fb34
 replace o135 := o135.ext fb34
 replace o162 := o162.ext fb34
 replace o189 := o189.ext fb34
 replace o216 := o216.ext fb34
 replace o243 := o243.ext fb34
 replace o260 := o260.ext fb34
 replace ox := ox.ext fb34
 replace q2 := q2.ext fb34
 replace o14 := o14.ext fb34
 replace o455 := o455.ext fb34
 replace hO := hO.ext fb34
 replace o482 := o482.ext fb34
 replace rw4 := rw4.ext fb34
 replace fL := fL.trans (fb34.mono (by simp))
 refine ⟨sb34, w34, _, _, _, _, _, _, _, o14.all rfl, _, _, _, _, _, _, _, o5.all rfl, (RMinus_okU (t := (⟨t.a, t.b, t.c, t.l.map addC⟩ : Tal)) (u := u) q2 hB ht2 hu).mono ?_⟩
 rintro _ sc35 ⟨⟨⟨w5, rfl, rw5⟩, fc35⟩, hc35⟩
 replace o1 := o1.ext fc35
 replace o3 := o3.ext fc35
 replace o5 := o5.ext fc35
 replace hA := hA.ext fc35
 replace hB := hB.ext fc35
 replace o27 := o27.ext fc35
 replace oy := oy.ext fc35
 replace o47 := o47.ext fc35
 replace o64 := o64.ext fc35
 replace o81 := o81.ext fc35
 replace o108 := o108.ext fc35
 replace o135 := o135.ext fc35
 replace o162 := o162.ext fc35
 replace o189 := o189.ext fc35
 replace o216 := o216.ext fc35
 replace o243 := o243.ext fc35
 replace o260 := o260.ext fc35
 replace ox := ox.ext fc35
 replace q2 := q2.ext fc35
 replace o14 := o14.ext fc35
 replace o455 := o455.ext fc35
 replace hO := hO.ext fc35
 replace o482 := o482.ext fc35
 replace rw4 := rw4.ext fc35
 replace o509 := o509.ext fc35
 replace fL := fL.trans (fc35.mono (by simp))
 refine ⟨_, _, _, _, _, _, _, _, rfl, ?_⟩
 intro m536 sa36 ha36
 obtain ⟨sb36, w36, o536, fb36, hb36⟩ := ha36.put ((minusU (⟨t.a, t.b, t.c, t.l.map addC⟩ : Tal) u).1.C w5) (rw5.onesx []) rfl
 replace o1 := o1.ext fb36
 replace o3 := o3.ext fb36
 replace o5 := o5.ext fb36
 replace hA := hA.ext fb36
 replace hB := hB.ext fb36
 replace o27 := o27.ext fb36
 replace oy := oy.ext fb36
 replace o47 := o47.ext fb36
 replace o64 := o64.ext fb36
 replace o81 := o81.ext fb36
 replace o108 := o108.ext fb36
 replace o135 := o135.ext fb36
 replace o162 := o162.ext fb36
 replace o189 := o189.ext fb36
 replace o216 := o216.ext fb36
 replace o243 := o243.ext fb36
 replace o260 := o260.ext fb36
 replace ox := ox.ext fb36
 replace q2 := q2.ext fb36
 replace o14 := o14.ext fb36
 replace o455 := o455.ext fb36
 replace hO := hO.ext fb36
 replace o482 := o482.ext fb36
 replace rw4 := rw4.ext fb36
 replace o509 := o509.ext fb36
 replace rw5 := rw5.ext fb36
 replace fL := fL.trans (fb36.mono (by simp))
 refine ⟨sb36, w36, _, _, _, _, _, _, _, o455.all rfl, _, _, _, _, _, _, _, o509.all rfl, ((sameTally_ok (t := (plusU (⟨t.a, t.b, t.c, t.l.map addC⟩ : Tal) u).1) ((hO.so (z7, (plusU (⟨t.a, t.b, t.c, t.l.map addC⟩ : Tal) u).1.l) (by simp)).sl) rw4 pl2).a).mono ?_⟩
 rintro _ sc37 ⟨⟨rfl, fc37⟩, hc37⟩
 replace o1 := o1.ext fc37
 replace o3 := o3.ext fc37
 replace o5 := o5.ext fc37
 replace hA := hA.ext fc37
 replace hB := hB.ext fc37
 replace o27 := o27.ext fc37
 replace oy := oy.ext fc37
 replace o47 := o47.ext fc37
 replace o64 := o64.ext fc37
 replace o81 := o81.ext fc37
 replace o108 := o108.ext fc37
 replace o135 := o135.ext fc37
 replace o162 := o162.ext fc37
 replace o189 := o189.ext fc37
 replace o216 := o216.ext fc37
 replace o243 := o243.ext fc37
 replace o260 := o260.ext fc37
 replace ox := ox.ext fc37
 replace q2 := q2.ext fc37
 replace o14 := o14.ext fc37
 replace o455 := o455.ext fc37
 replace hO := hO.ext fc37
 replace o482 := o482.ext fc37
 replace rw4 := rw4.ext fc37
 replace o509 := o509.ext fc37
 replace rw5 := rw5.ext fc37
 replace o536 := o536.ext fc37
 replace fL := fL.trans (fc37.mono (by simp))
 refine ⟨true, rfl, _, _, _, _, _, _, _, o482.all rfl, _, _, _, _, _, _, _, o536.all rfl, ((sameTally_ok (t := (minusU (⟨t.a, t.b, t.c, t.l.map addC⟩ : Tal) u).1) ((hO.so (z8, (minusU (⟨t.a, t.b, t.c, t.l.map addC⟩ : Tal) u).1.l) (by simp)).sl) rw5 ml2).a).mono ?_⟩
 rintro _ sc38 ⟨⟨rfl, fc38⟩, hc38⟩
 replace o1 := o1.ext fc38
 replace o3 := o3.ext fc38
 replace o5 := o5.ext fc38
 replace hA := hA.ext fc38
 replace hB := hB.ext fc38
 replace o27 := o27.ext fc38
 replace oy := oy.ext fc38
 replace o47 := o47.ext fc38
 replace o64 := o64.ext fc38
 replace o81 := o81.ext fc38
 replace o108 := o108.ext fc38
 replace o135 := o135.ext fc38
 replace o162 := o162.ext fc38
 replace o189 := o189.ext fc38
 replace o216 := o216.ext fc38
 replace o243 := o243.ext fc38
 replace o260 := o260.ext fc38
 replace ox := ox.ext fc38
 replace q2 := q2.ext fc38
 replace o14 := o14.ext fc38
 replace o455 := o455.ext fc38
 replace hO := hO.ext fc38
 replace o482 := o482.ext fc38
 replace rw4 := rw4.ext fc38
 replace o509 := o509.ext fc38
 replace rw5 := rw5.ext fc38
 replace o536 := o536.ext fc38
 replace fL := fL.trans (fc38.mono (by simp))
 refine ⟨true, rfl, _, o64.ld1 6 rfl, _, o81.ld1 6 rfl, _, o108.ld1 6 rfl, _, o135.ld1 6 rfl, _, o162.ld1 6 rfl, _, o189.ld1 6 rfl, _, o455.ld1 6 rfl, _, o482.ld1 6 rfl, ?_⟩
 refine ((hO.so (AV.slice d1 0 1 (.exact 1), (oneT cl).l) (by simp)).sl).one (((hO.so (AV.slice d2 0 1 (.exact 1), (oneT cl).l) (by simp)).sl).one (((hO.so (z3, (plusU t u).1.l) (by simp)).sl).one (((hO.so (z4, (minusU t u).1.l) (by simp)).sl).one (((hO.so (z5, (plusU t u).1.l) (by simp)).sl).one (((hO.so (z6, (minusU t u).1.l) (by simp)).sl).one (((hO.so (z7, (plusU (⟨t.a, t.b, t.c, t.l.map addC⟩ : Tal) u).1.l) (by simp)).sl).one (((hO.so (z8, (minusU (⟨t.a, t.b, t.c, t.l.map addC⟩ : Tal) u).1.l) (by simp)).sl).one ?_)))))))
 intro m581 s582 h582
 refine (hO.own h582 rfl (fun p hp => ?_) (by simp)).mono ?_
 ·simp only [List.nil_append, List.cons_append, List.mem_cons, List.not_mem_nil, or_false] at hp
  rcases hp with rfl | rfl | rfl | rfl | rfl | rfl | rfl | rfl
  ·exact one_len cl
  ·exact one_len cl
  ·exact plusU_len ht hu
  ·exact minusU_len ht hu
  ·exact plusU_len ht hu
  ·exact minusU_len ht hu
  ·exact plusU_len ht2 hu
  ·exact minusU_len ht2 hu
 ·rintro _ s584 rfl
  exact ⟨true, rfl, bsel_of (fun _ => bsel_of (fun _ => bsel_of (fun _ => bsel_of (fun _ => bsel_of (fun _ => bsel_of (fun _ => rfl) fun c => by simp at c) fun c => by simp at c) fun c => by simp at c) fun c => by simp at c) fun c => by simp at c) fun c => by simp at c⟩
end
end Go.Eng.S

