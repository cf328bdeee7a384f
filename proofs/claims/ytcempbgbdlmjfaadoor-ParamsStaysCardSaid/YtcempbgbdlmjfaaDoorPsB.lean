/-
  params: the walk of ParamsStays.
-/
import Derived.Test.YtcempbgbdlmjfaaDoorPsA
import Derived.Test.YtcempbgbdlmjfaaDoorPsPlain
import Derived.Test.YtcempbgbdlmjfaaDoorPaH
import Derived.Test.YtcempbgbdlmjfaaDoorPaFew
namespace Go.Proofs.YtcempbgbdlmjfaaDoor
open Go.RowKit

/-- a list of parameters in a block of its own -/
def LiAt (w : World) (b : Nat) (t : TypeId) (A : Option Addr) (n c : Nat) (o : Bool) : Prop := w.heap[b]? = some (.cells #[.slice A n c, .bool o] t (0, 0))
theorem LiAt.cells {w : World} {b : Nat} {t : TypeId} {A : Option Addr} {n c : Nat} {o : Bool} (h : LiAt w b t A n c o) : w.cell? ⟨b, 0, none⟩ = some (.slice A n c) ∧ w.cell? ⟨b, 1, none⟩ = some (.bool o) := ⟨bk_cell h 0 _ rfl, bk_cell h 1 _ rfl⟩
theorem LiAt.past {w w' : World} {b : Nat} {t : TypeId} {A : Option Addr} {n c : Nat} {o : Bool} (h : LiAt w b t A n c o) (hb : Below w.heap.size w w') : LiAt w' b t A n c o := bk_past h hb (Nat.le_refl _)
theorem drewN_below2 {B : Nat} {w w' : World} (h : Below B w w') (n : Nat) : Below B w (w'.drewN n) := h.trans ⟨rfl, rfl, rfl, Nat.le_refl _, fun _ _ => rfl⟩
set_option maxRecDepth 100000 in
set_option maxHeartbeats 1600000 in
theorem ours5_any (A : Option Addr) (n c : Nat) (o : Bool) (w : World) : Calls Tryd.prog 39 #[.agg #[.slice A n c, .bool o]] w fun e w' => e = .returned (.agg #[.slice A n c, .bool o]) ∧ Below w.heap.size w w' := by
  go_enter Tryd.func39, Tryd.ntmps39
  go_wp2
  exact bodyPost_ret (v := .agg #[.slice A n c, .bool o]) (by simp [results, Tryd.results39, go_sem]) rfl ⟨rfl, ((Below.refl _ _).alloc (Nat.le_refl _) _).alloc (by simp) _⟩
/-- one of the lists of a list of lists, alone -/
theorem rd_single {w : World} {lo : Nat} {A : Option Addr} {n c : Nat} {L : List (List Int)} (h : RdLL w lo w.heap.size (.slice A n c) L) (i : Nat) (hi : i < L.length) (t : TypeId) :
    ∃ b off Ai ci, A = some ⟨b, off, none⟩ ∧ b < w.heap.size ∧ w.cell? ⟨b, off + i, none⟩ = some (.slice Ai L[i].length ci) ∧ L[i].length ≤ ci ∧
      ∀ w2, Below w.heap.size w w2 → RdLL (w2.alloc (.cells #[.slice Ai L[i].length ci] t)) 0 (w2.alloc (.cells #[.slice Ai L[i].length ci] t)).heap.size (.slice (some ⟨w2.heap.size, 0, none⟩) 1 1) [L[i]] := by
  obtain ⟨b, off, Ai, ci, h1, h2, h3, h4, h5⟩ := h.at i hi
  refine ⟨b, off, Ai, ci, h1, h2, h3, h4, fun w2 hb => ?_⟩
  have hz := hb.size
  refine ⟨_, 1, [.slice Ai L[i].length ci], rfl, by simp, rd_of_block (cs := [.slice Ai L[i].length ci]) (heap_alloc_new w2 _) (by simp), fun _ _ _ => Nat.zero_le _, rfl, fun j hj => ?_⟩
  obtain rfl : j = 0 := by simp at hj; omega
  exact ⟨Ai, ci, rfl, h4, ((h5.below hb (Nat.le_refl _)).alloc hz _).more (by simp; omega), fun _ _ _ => Nat.zero_le _⟩

set_option maxRecDepth 100000 in
set_option maxHeartbeats 6400000 in
theorem ps_1 (L : List (List Int)) (o : Bool) (x : Int) (A : Option Addr) (c : Nat) (w : World) (hr : RdLL w 0 w.heap.size (.slice A L.length c) L) (hT : TabI w) (fw : fewF L = false) : Calls Tryd.prog 11 #[.agg #[.slice A L.length c, .bool o], .int .u8 x] w fun e w' => e = .returned (.bool true) ∧ Below w.heap.size w w' := by
  have HP : Hid (LiAt (w.alloc (.cells #[.slice A L.length c, .bool o] 57)) w.heap.size 57 A L.length c o) := Lib.hid (heap_alloc_new w _)
  have HT := Lib.hid (hT.alloc (.cells #[.slice A L.length c, .bool o] 57))
  have HB : Hid (Below w.heap.size w (w.alloc (.cells #[.slice A L.length c, .bool o] 57))) := Lib.hid ((Below.refl _ _).alloc (Nat.le_refl _) _)
  have HR := Lib.hid (hr.nextA (.cells #[.slice A L.length c, .bool o] 57))
  clear hT hr
  have FW := Lib.hid fw; clear fw
  have HP0 := HP; have HT0 := HT; have HB0 := HB; have HR0 := HR
  clear HP HT HB HR
  go_enter Tryd.func11, Tryd.ntmps11
  go_wp2_with fail
  refine (awake5_any _).mono ?_
  rintro e w1 ⟨rfl, hb⟩
  have HB1 := Lib.hid (HB0.out.trans (hb.mono HB0.out.size))
  have HT1 := Lib.hid (HT0.out.below hb)
  have HP1 := Lib.hid (HP0.out.past hb)
  have HR1 := Lib.hid (HR0.out.next hb)
  clear HB0 HT0 HP0 HR0 hb
  obtain ⟨p0, p1⟩ := HP1.out.cells
  go_wp2_with fail
  refine (few_any L _ _ HR1.out).mono ?_
  rintro e _ ⟨rfl, rfl⟩
  simp only [FW.out]
  go_wp2_with fail
  go_ret
  exact ⟨rfl, HB1.out⟩

set_option maxRecDepth 100000 in
set_option maxHeartbeats 6400000 in
theorem ps_2 (L : List (List Int)) (o : Bool) (x : Int) (A : Option Addr) (c : Nat) (w : World) (hr : RdLL w 0 w.heap.size (.slice A L.length c) L) (hT : TabI w) (fw : fewF L = true) (sp : saneP ⟨L, o⟩ = false) : Calls Tryd.prog 11 #[.agg #[.slice A L.length c, .bool o], .int .u8 x] w fun e w' => e = .returned (.bool true) ∧ Below w.heap.size w w' := by
  have HP : Hid (LiAt (w.alloc (.cells #[.slice A L.length c, .bool o] 57)) w.heap.size 57 A L.length c o) := Lib.hid (heap_alloc_new w _)
  have HT := Lib.hid (hT.alloc (.cells #[.slice A L.length c, .bool o] 57))
  have HB : Hid (Below w.heap.size w (w.alloc (.cells #[.slice A L.length c, .bool o] 57))) := Lib.hid ((Below.refl _ _).alloc (Nat.le_refl _) _)
  have HR := Lib.hid (hr.nextA (.cells #[.slice A L.length c, .bool o] 57))
  clear hT hr
  have FW := Lib.hid fw; have SP := Lib.hid sp; clear fw sp
  have HP0 := HP; have HT0 := HT; have HB0 := HB; have HR0 := HR
  clear HP HT HB HR
  go_enter Tryd.func11, Tryd.ntmps11
  go_wp2_with fail
  refine (awake5_any _).mono ?_
  rintro e w1 ⟨rfl, hb⟩
  have HB1 := Lib.hid (HB0.out.trans (hb.mono HB0.out.size))
  have HT1 := Lib.hid (HT0.out.below hb)
  have HP1 := Lib.hid (HP0.out.past hb)
  have HR1 := Lib.hid (HR0.out.next hb)
  clear HB0 HT0 HP0 HR0 hb
  obtain ⟨p0, p1⟩ := HP1.out.cells
  go_wp2_with fail
  refine (few_any L _ _ HR1.out).mono ?_
  rintro e _ ⟨rfl, rfl⟩
  simp only [FW.out]
  go_wp2_with fail
  refine (ours5_any A L.length c o _).mono ?_
  rintro e w2 ⟨rfl, hb⟩
  clear p0 p1
  have HB2 := Lib.hid (HB1.out.trans (hb.mono HB1.out.size))
  have HT2 := Lib.hid (HT1.out.below hb)
  have HP2 := Lib.hid (HP1.out.past hb)
  have HR2 := Lib.hid (HR1.out.next hb)
  clear HB1 HT1 HP1 HR1 hb
  go_wp2_with fail
  refine (sanep_any L o _ _ HR2.out).mono ?_
  rintro e w3 ⟨rfl, hb⟩
  simp only [SP.out]
  have HB3 := Lib.hid (HB2.out.trans (hb.mono HB2.out.size))
  have HT3 := Lib.hid (HT2.out.below hb)
  have HP3 := Lib.hid (HP2.out.past hb)
  have HR3 := Lib.hid (HR2.out.next hb)
  clear HB2 HT2 HP2 HR2 hb
  go_wp2_with fail
  go_ret
  exact ⟨rfl, HB3.out⟩

set_option maxRecDepth 100000 in
set_option maxHeartbeats 6400000 in
theorem ps_3 (L : List (List Int)) (o : Bool) (x : Int) (A : Option Addr) (c : Nat) (w : World) (hr : RdLL w 0 w.heap.size (.slice A L.length c) L) (x0 : 0 ≤ x) (x1 : x < 256) (hT : TabI w) (fw : fewF L = true) (sp : saneP ⟨L, o⟩ = true) : Calls Tryd.prog 11 #[.agg #[.slice A L.length c, .bool o], .int .u8 x] w fun e w' => e = .returned (.bool true) ∧ Below w.heap.size w w' := by
  have HP : Hid (LiAt (w.alloc (.cells #[.slice A L.length c, .bool o] 57)) w.heap.size 57 A L.length c o) := Lib.hid (heap_alloc_new w _)
  have HT := Lib.hid (hT.alloc (.cells #[.slice A L.length c, .bool o] 57))
  have HB : Hid (Below w.heap.size w (w.alloc (.cells #[.slice A L.length c, .bool o] 57))) := Lib.hid ((Below.refl _ _).alloc (Nat.le_refl _) _)
  have HR := Lib.hid (hr.nextA (.cells #[.slice A L.length c, .bool o] 57))
  clear hT hr
  have h3 := (saneP_iff _).1 sp
  have hs0 : saneP ⟨L, false⟩ = true := (saneP_iff _).2 ⟨h3.1, by simp, h3.2.2⟩
  have hl16 : L.length ≤ 16 := h3.1
  have hrow : ∀ q ∈ L, q.length ≤ 1000000 := fun q hq => by have := ((okRow_iff q).1 (h3.2.2 q hq)).1; omega
  obtain ⟨dS, dL⟩ := digit_stays ⟨L, o⟩ x sp
  obtain ⟨nS, nL⟩ := next_stays ⟨L, o⟩ sp
  obtain ⟨sS, sL⟩ := sub_stays ⟨L, o⟩ sp
  have dsn := digit_sane (c := x) sp
  have nsn := next_sane sp
  have ssn := sub_sane sp
  obtain ⟨⟨D, dO⟩, hD⟩ : ∃ d, digitP ⟨L, o⟩ x = d := ⟨_, rfl⟩
  obtain ⟨⟨N, nO⟩, hN⟩ : ∃ d, nextP ⟨L, o⟩ = d := ⟨_, rfl⟩
  obtain ⟨⟨S, sO⟩, hS⟩ : ∃ d, subP ⟨L, o⟩ = d := ⟨_, rfl⟩
  rw [hD] at dS dL dsn
  rw [hN] at nS nL nsn
  rw [hS] at sS sL ssn
  simp only at dS dL nS nL sS sL
  obtain ⟨tb, htb⟩ : ∃ tb : ByteArray, (⟨(printS L).toArray⟩ : ByteArray) = tb := ⟨_, rfl⟩
  have ld := dS.1
  have ln := nS.1
  have ls := sS.1
  have q1 : decide (D.length < L.length) = false := by simp; omega
  have q2 : decide (N.length < L.length) = false := by simp; omega
  have q3 : decide (S.length < L.length) = false := by simp; omega
  have eD : (D.length : Int) = max (L.length : Int) (min (D.length : Int) 1) := by omega
  have eS : (S.length : Int) = max (L.length : Int) 1 := by omega
  have ed : ((D.length : Int) == max (L.length : Int) (min (D.length : Int) 1)) = true := beq_iff_eq.2 eD
  have es : ((S.length : Int) == max (L.length : Int) 1) = true := beq_iff_eq.2 eS
  have FW := Lib.hid fw; have SP := Lib.hid sp; have HS0 := Lib.hid hs0; have HROW := Lib.hid hrow; have HD := Lib.hid hD; have HN := Lib.hid hN; have HSB := Lib.hid hS; have HTB := Lib.hid htb
  have DS := Lib.hid dS; have NS := Lib.hid nS; have SS := Lib.hid sS; have DSN := Lib.hid dsn; have NSN := Lib.hid nsn; have SSN := Lib.hid ssn; have DL := Lib.hid dL; have SL := Lib.hid sL
  clear fw sp h3 hs0 hrow dS dL nS sS sL dsn nsn ssn hD hN hS htb eD eS
  have HP0 := HP; have HT0 := HT; have HB0 := HB; have HR0 := HR
  clear HP HT HB HR
  go_enter Tryd.func11, Tryd.ntmps11
  go_wp2_with fail
  refine (awake5_any _).mono ?_
  rintro e w1 ⟨rfl, hb⟩
  have HB1 := Lib.hid (HB0.out.trans (hb.mono HB0.out.size))
  have HT1 := Lib.hid (HT0.out.below hb)
  have HP1 := Lib.hid (HP0.out.past hb)
  have HR1 := Lib.hid (HR0.out.next hb)
  clear HB0 HT0 HP0 HR0 hb
  obtain ⟨p0, p1⟩ := HP1.out.cells
  go_wp2_with fail
  refine (few_any L _ _ HR1.out).mono ?_
  rintro e _ ⟨rfl, rfl⟩
  simp only [FW.out]
  go_wp2_with fail
  refine (ours5_any A L.length c o _).mono ?_
  rintro e w2 ⟨rfl, hb⟩
  clear p0 p1
  have HB2 := Lib.hid (HB1.out.trans (hb.mono HB1.out.size))
  have HT2 := Lib.hid (HT1.out.below hb)
  have HP2 := Lib.hid (HP1.out.past hb)
  have HR2 := Lib.hid (HR1.out.next hb)
  clear HB1 HT1 HP1 HR1 hb
  go_wp2_with fail
  refine (sanep_any L o _ _ HR2.out).mono ?_
  rintro e w3 ⟨rfl, hb⟩
  simp only [SP.out]
  have HB3 := Lib.hid (HB2.out.trans (hb.mono HB2.out.size))
  have HT3 := Lib.hid (HT2.out.below hb)
  have HP3 := Lib.hid (HP2.out.past hb)
  have HR3 := Lib.hid (HR2.out.next hb)
  clear HB2 HT2 HP2 HR2 hb
  obtain ⟨p0, p1⟩ := HP3.out.cells
  go_wp2_with fail
  refine (refPrint_any L _ _ HR3.out HT3.out HS0.out).mono ?_
  rintro e w4 ⟨rfl, hb⟩
  simp only [HTB.out]
  clear p0 p1
  have HB4 := Lib.hid (HB3.out.trans (hb.mono HB3.out.size))
  have HT4 := Lib.hid (HT3.out.below hb)
  have HP4 := Lib.hid (HP3.out.past hb)
  have HR4 := Lib.hid (HR3.out.next hb)
  clear HB3 HT3 HP3 HR3 hb
  obtain ⟨p0, p1⟩ := HP4.out.cells
  go_wp2_with fail
  refine (ours5_any A L.length c o _).mono ?_
  rintro e u1 ⟨rfl, hb⟩
  clear p0 p1
  have HB5 := Lib.hid (HB4.out.trans (hb.mono HB4.out.size))
  have HT5 := Lib.hid (HT4.out.below hb)
  have HP5 := Lib.hid (HP4.out.past hb)
  have HR5 := Lib.hid (HR4.out.next hb)
  clear HB4 HT4 HP4 HR4 hb
  go_wp2_with fail
  refine (digit_any L o _ x _ HR5.out (Nat.zero_le _) x0 x1).mono ?_
  rintro e wd ⟨v, rfl, hv, hb⟩
  simp only [HD.out] at hv ⊢
  obtain ⟨A1, c1, rfl, _⟩ := rdLL_form hv
  have HV := Lib.hid hv
  clear hv
  have HB6 := Lib.hid (HB5.out.trans (hb.mono HB5.out.size))
  have HT6 := Lib.hid (HT5.out.below hb)
  have HP6 := Lib.hid (HP5.out.past hb)
  have HR6 := Lib.hid (HR5.out.next hb)
  clear HB5 HT5 HP5 HR5 hb
  have hb : Below wd.heap.size wd (wd.alloc (.cells #[.slice A1 D.length c1, .bool dO] 59)) := (Below.refl _ _).alloc (Nat.le_refl _) _
  have XD7 : Hid (LiAt (wd.alloc (.cells #[.slice A1 D.length c1, .bool dO] 59)) wd.heap.size 59 A1 D.length c1 dO) := Lib.hid (heap_alloc_new wd _)
  have RXD7 := Lib.hid (HV.out.next hb)
  clear HV
  have HB7 := Lib.hid (HB6.out.trans (hb.mono HB6.out.size))
  have HT7 := Lib.hid (HT6.out.below hb)
  have HP7 := Lib.hid (HP6.out.past hb)
  have HR7 := Lib.hid (HR6.out.next hb)
  clear HB6 HT6 HP6 HR6 hb
  obtain ⟨p0, p1⟩ := HP7.out.cells
  go_wp2_with fail
  refine (ours5_any A L.length c o _).mono ?_
  rintro e u2 ⟨rfl, hb⟩
  clear p0 p1
  have HB8 := Lib.hid (HB7.out.trans (hb.mono HB7.out.size))
  have HT8 := Lib.hid (HT7.out.below hb)
  have HP8 := Lib.hid (HP7.out.past hb)
  have XD8 := Lib.hid (XD7.out.past hb)
  have HR8 := Lib.hid (HR7.out.next hb)
  have RXD8 := Lib.hid (RXD7.out.next hb)
  clear HB7 HT7 HP7 XD7 HR7 RXD7 hb
  go_wp2_with fail
  refine (next_any L o _ _ HR8.out (Nat.zero_le _)).mono ?_
  rintro e wn ⟨v, rfl, hv, hb⟩
  simp only [HN.out] at hv ⊢
  obtain ⟨A2, c2, rfl, _⟩ := rdLL_form hv
  have HV := Lib.hid hv
  clear hv
  have HB9 := Lib.hid (HB8.out.trans (hb.mono HB8.out.size))
  have HT9 := Lib.hid (HT8.out.below hb)
  have HP9 := Lib.hid (HP8.out.past hb)
  have XD9 := Lib.hid (XD8.out.past hb)
  have HR9 := Lib.hid (HR8.out.next hb)
  have RXD9 := Lib.hid (RXD8.out.next hb)
  clear HB8 HT8 HP8 XD8 HR8 RXD8 hb
  have hb : Below wn.heap.size wn (wn.alloc (.cells #[.slice A2 N.length c2, .bool nO] 59)) := (Below.refl _ _).alloc (Nat.le_refl _) _
  have XN10 : Hid (LiAt (wn.alloc (.cells #[.slice A2 N.length c2, .bool nO] 59)) wn.heap.size 59 A2 N.length c2 nO) := Lib.hid (heap_alloc_new wn _)
  have RXN10 := Lib.hid (HV.out.next hb)
  clear HV
  have HB10 := Lib.hid (HB9.out.trans (hb.mono HB9.out.size))
  have HT10 := Lib.hid (HT9.out.below hb)
  have HP10 := Lib.hid (HP9.out.past hb)
  have XD10 := Lib.hid (XD9.out.past hb)
  have HR10 := Lib.hid (HR9.out.next hb)
  have RXD10 := Lib.hid (RXD9.out.next hb)
  clear HB9 HT9 HP9 XD9 HR9 RXD9 hb
  obtain ⟨p0, p1⟩ := HP10.out.cells
  go_wp2_with fail
  refine (ours5_any A L.length c o _).mono ?_
  rintro e u3 ⟨rfl, hb⟩
  clear p0 p1
  have HB11 := Lib.hid (HB10.out.trans (hb.mono HB10.out.size))
  have HT11 := Lib.hid (HT10.out.below hb)
  have HP11 := Lib.hid (HP10.out.past hb)
  have XD11 := Lib.hid (XD10.out.past hb)
  have XN11 := Lib.hid (XN10.out.past hb)
  have HR11 := Lib.hid (HR10.out.next hb)
  have RXD11 := Lib.hid (RXD10.out.next hb)
  have RXN11 := Lib.hid (RXN10.out.next hb)
  clear HB10 HT10 HP10 XD10 XN10 HR10 RXD10 RXN10 hb
  go_wp2_with fail
  refine (sub_any L o _ _ HR11.out (Nat.zero_le _)).mono ?_
  rintro e ws ⟨v, rfl, hv, hb⟩
  simp only [HSB.out] at hv ⊢
  obtain ⟨A3, c3, rfl, _⟩ := rdLL_form hv
  have HV := Lib.hid hv
  clear hv
  have HB12 := Lib.hid (HB11.out.trans (hb.mono HB11.out.size))
  have HT12 := Lib.hid (HT11.out.below hb)
  have HP12 := Lib.hid (HP11.out.past hb)
  have XD12 := Lib.hid (XD11.out.past hb)
  have XN12 := Lib.hid (XN11.out.past hb)
  have HR12 := Lib.hid (HR11.out.next hb)
  have RXD12 := Lib.hid (RXD11.out.next hb)
  have RXN12 := Lib.hid (RXN11.out.next hb)
  clear HB11 HT11 HP11 XD11 XN11 HR11 RXD11 RXN11 hb
  have hb : Below ws.heap.size ws (ws.alloc (.cells #[.slice A3 S.length c3, .bool sO] 59)) := (Below.refl _ _).alloc (Nat.le_refl _) _
  have XS13 : Hid (LiAt (ws.alloc (.cells #[.slice A3 S.length c3, .bool sO] 59)) ws.heap.size 59 A3 S.length c3 sO) := Lib.hid (heap_alloc_new ws _)
  have RXS13 := Lib.hid (HV.out.next hb)
  clear HV
  have HB13 := Lib.hid (HB12.out.trans (hb.mono HB12.out.size))
  have HT13 := Lib.hid (HT12.out.below hb)
  have HP13 := Lib.hid (HP12.out.past hb)
  have XD13 := Lib.hid (XD12.out.past hb)
  have XN13 := Lib.hid (XN12.out.past hb)
  have HR13 := Lib.hid (HR12.out.next hb)
  have RXD13 := Lib.hid (RXD12.out.next hb)
  have RXN13 := Lib.hid (RXN12.out.next hb)
  clear HB12 HT12 HP12 XD12 XN12 HR12 RXD12 RXN12 hb
  obtain ⟨p0, p1⟩ := HP13.out.cells
  go_wp2_with fail
  refine (refPrint_any L _ _ HR13.out HT13.out HS0.out).mono ?_
  rintro e w5 ⟨rfl, hb⟩
  simp only [HTB.out]
  clear p0 p1
  have HB14 := Lib.hid (HB13.out.trans (hb.mono HB13.out.size))
  have HT14 := Lib.hid (HT13.out.below hb)
  have HP14 := Lib.hid (HP13.out.past hb)
  have XD14 := Lib.hid (XD13.out.past hb)
  have XN14 := Lib.hid (XN13.out.past hb)
  have XS14 := Lib.hid (XS13.out.past hb)
  have HR14 := Lib.hid (HR13.out.next hb)
  have RXD14 := Lib.hid (RXD13.out.next hb)
  have RXN14 := Lib.hid (RXN13.out.next hb)
  have RXS14 := Lib.hid (RXS13.out.next hb)
  clear HB13 HT13 HP13 XD13 XN13 XS13 HR13 RXD13 RXN13 RXS13 hb
  obtain ⟨p0, p1⟩ := XD14.out.cells
  go_wp2_with fail
  refine (sanep_any D dO _ _ RXD14.out).mono ?_
  rintro e w6 ⟨rfl, hb⟩
  simp only [DSN.out]
  clear p0 p1
  have HB15 := Lib.hid (HB14.out.trans (hb.mono HB14.out.size))
  have HT15 := Lib.hid (HT14.out.below hb)
  have HP15 := Lib.hid (HP14.out.past hb)
  have XD15 := Lib.hid (XD14.out.past hb)
  have XN15 := Lib.hid (XN14.out.past hb)
  have XS15 := Lib.hid (XS14.out.past hb)
  have HR15 := Lib.hid (HR14.out.next hb)
  have RXD15 := Lib.hid (RXD14.out.next hb)
  have RXN15 := Lib.hid (RXN14.out.next hb)
  have RXS15 := Lib.hid (RXS14.out.next hb)
  clear HB14 HT14 HP14 XD14 XN14 XS14 HR14 RXD14 RXN14 RXS14 hb
  obtain ⟨p0, p1⟩ := XN15.out.cells
  go_wp2_with fail
  refine (sanep_any N nO _ _ RXN15.out).mono ?_
  rintro e w7 ⟨rfl, hb⟩
  simp only [NSN.out]
  clear p0 p1
  have HB16 := Lib.hid (HB15.out.trans (hb.mono HB15.out.size))
  have HT16 := Lib.hid (HT15.out.below hb)
  have HP16 := Lib.hid (HP15.out.past hb)
  have XD16 := Lib.hid (XD15.out.past hb)
  have XN16 := Lib.hid (XN15.out.past hb)
  have XS16 := Lib.hid (XS15.out.past hb)
  have HR16 := Lib.hid (HR15.out.next hb)
  have RXD16 := Lib.hid (RXD15.out.next hb)
  have RXN16 := Lib.hid (RXN15.out.next hb)
  have RXS16 := Lib.hid (RXS15.out.next hb)
  clear HB15 HT15 HP15 XD15 XN15 XS15 HR15 RXD15 RXN15 RXS15 hb
  obtain ⟨p0, p1⟩ := XS16.out.cells
  go_wp2_with fail
  refine (sanep_any S sO _ _ RXS16.out).mono ?_
  rintro e w8 ⟨rfl, hb⟩
  simp only [SSN.out]
  clear p0 p1
  have HB17 := Lib.hid (HB16.out.trans (hb.mono HB16.out.size))
  have HT17 := Lib.hid (HT16.out.below hb)
  have HP17 := Lib.hid (HP16.out.past hb)
  have XD17 := Lib.hid (XD16.out.past hb)
  have XN17 := Lib.hid (XN16.out.past hb)
  have XS17 := Lib.hid (XS16.out.past hb)
  have HR17 := Lib.hid (HR16.out.next hb)
  have RXD17 := Lib.hid (RXD16.out.next hb)
  have RXN17 := Lib.hid (RXN16.out.next hb)
  have RXS17 := Lib.hid (RXS16.out.next hb)
  clear HB16 HT16 HP16 XD16 XN16 XS16 HR16 RXD16 RXN16 RXS16 hb
  obtain ⟨d0, d1⟩ := XD17.out.cells
  obtain ⟨n0, n1⟩ := XN17.out.cells
  obtain ⟨s0, s1⟩ := XS17.out.cells
  go_wp2_with fail
  clear d0 d1 n0 n1 s0 s1
  go_loopw [11] (fun i wr => ∃ k : Nat, k ≤ L.length ∧ i = .int .i64 k ∧ Below w8.heap.size w8 wr) (fun i _ => L.length - (intOf i).toNat)
  case atStart => exact ⟨0, Nat.zero_le _, rfl, Below.refl _ _⟩
  case round =>
    obtain ⟨k, hk, rfl, hbr⟩ := hrel
    have BR := Lib.hid hbr
    have P := Lib.hid (HP17.out.past hbr); have QD := Lib.hid (XD17.out.past hbr); have QN := Lib.hid (XN17.out.past hbr); have QS := Lib.hid (XS17.out.past hbr)
    have YR := Lib.hid (HR17.out.next hbr); have YD := Lib.hid (RXD17.out.next hbr); have YN := Lib.hid (RXN17.out.next hbr); have YS := Lib.hid (RXS17.out.next hbr)
    have WB := Lib.hid (HB17.out.trans (hbr.mono HB17.out.size))
    obtain ⟨p0, p1⟩ := P.out.cells
    obtain ⟨d0, d1⟩ := QD.out.cells
    obtain ⟨n0, n1⟩ := QN.out.cells
    obtain ⟨s0, s1⟩ := QS.out.cells
    have hzr := hbr.size
    have hzp : w.heap.size < wr.heap.size := bk_lt P.out
    have hzd : wd.heap.size < wr.heap.size := bk_lt QD.out
    have hzn : wn.heap.size < wr.heap.size := bk_lt QN.out
    have hzs : ws.heap.size < wr.heap.size := bk_lt QS.out
    clear hbr
    by_cases hlt : (k : Int) < (L.length : Int) - 1
    · have hk1 : k + 1 < L.length := by omega
      obtain ⟨b1, o1, B1, e1, hA, hb1, hc1, he1, hr1⟩ := rd_single YR.out k (by omega) 47
      obtain ⟨b2, o2, B2, e2, hA2, hb2, hc2, he2, hr2⟩ := rd_single YD.out k (by omega) 47
      obtain ⟨b3, o3, B3, e3, hA3, hb3, hc3, he3, hr3⟩ := rd_single YN.out k (by omega) 47
      obtain ⟨b4, o4, B4, e4, hA4, hb4, hc4, he4, hr4⟩ := rd_single YS.out k (by omega) 47
      subst hA; subst hA2; subst hA3; subst hA4
      rw [DS.out.at k hk1 (by omega) (by omega)] at hc2 he2 hr2
      rw [NS.out.at k hk1 (by omega) (by omega)] at hc3 he3 hr3
      rw [SS.out.at k hk1 (by omega) (by omega)] at hc4 he4 hr4
      have hq := HROW.out _ (List.getElem_mem (show k < L.length by omega))
      obtain ⟨q, hqq⟩ : ∃ q, L[k]'(by omega) = q := ⟨_, rfl⟩
      rw [hqq] at hc1 hc2 hc3 hc4 he1 he2 he3 he4 hr1 hr2 hr3 hr4 hq
      have H1 := Lib.hid hr1; have H2 := Lib.hid hr2; have H3 := Lib.hid hr3; have H4 := Lib.hid hr4
      have HQ1 : Hid (∀ z ∈ [q], z.length ≤ 1000000) := Lib.hid (by simpa using hq)
      have HQ2 : Hid (decide ([q] = [q]) = true) := Lib.hid (by simp)
      clear hr1 hr2 hr3 hr4 hqq hq
      have i0 : (0 : Int) ≤ (k : Int) := by omega
      have i1 : (k : Int) < (L.length : Int) := by omega
      have i2 : (k : Int) < (D.length : Int) := by omega
      have i3 : (k : Int) < (N.length : Int) := by omega
      have i4 : (k : Int) < (S.length : Int) := by omega
      have g1 : Below wr.heap.size wr (wr.alloc (.cells #[.slice B1 q.length e1] 47)) := (Below.refl _ _).alloc (Nat.le_refl _) _
      have g2 : Below wr.heap.size wr ((wr.alloc (.cells #[.slice B1 q.length e1] 47)).alloc (.cells #[.slice B2 q.length e2] 47)) := g1.alloc (by simp) _
      have hs1 : (wr.alloc (.cells #[.slice B1 q.length e1] 47)).heap.size = wr.heap.size + 1 := by simp
      have r1 := ((H1.out wr (Below.refl _ _)).nextA (.cells #[.slice B2 q.length e2] 47))
      have r2 := H2.out (wr.alloc (.cells #[.slice B1 q.length e1] 47)) g1
      rw [hs1] at r2
      have G1 := Lib.hid r1; have G2 := Lib.hid r2; have GB := Lib.hid g2
      clear g1 g2 hs1 r1 r2
      go_wp2_with fail
      refine (same5_any [q] [q] _ _ _ G1.out G2.out HQ1.out (by simp)).mono ?_
      rintro e _ ⟨rfl, m1, rfl⟩
      simp only [HQ2.out]
      have g3 : Below wr.heap.size wr (((wr.alloc (.cells #[.slice B1 q.length e1] 47)).alloc (.cells #[.slice B2 q.length e2] 47)).drewN m1) := drewN_below2 GB.out m1
      have hs2 : (((wr.alloc (.cells #[.slice B1 q.length e1] 47)).alloc (.cells #[.slice B2 q.length e2] 47)).drewN m1).heap.size = wr.heap.size + 1 + 1 := by show ((wr.alloc (.cells #[.slice B1 q.length e1] 47)).alloc (.cells #[.slice B2 q.length e2] 47)).heap.size = _; simp
      have r3 := (show RdLL (((wr.alloc (.cells #[.slice B1 q.length e1] 47)).alloc (.cells #[.slice B2 q.length e2] 47)).drewN m1) 0 (((wr.alloc (.cells #[.slice B1 q.length e1] 47)).alloc (.cells #[.slice B2 q.length e2] 47)).drewN m1).heap.size _ [q] from G1.out).nextA (.cells #[.slice B3 q.length e3] 47)
      have r4 := H3.out (((wr.alloc (.cells #[.slice B1 q.length e1] 47)).alloc (.cells #[.slice B2 q.length e2] 47)).drewN m1) g3
      rw [hs2] at r4
      have g4 : Below wr.heap.size wr ((((wr.alloc (.cells #[.slice B1 q.length e1] 47)).alloc (.cells #[.slice B2 q.length e2] 47)).drewN m1).alloc (.cells #[.slice B3 q.length e3] 47)) := g3.alloc g3.size _
      have G3 := Lib.hid r3; have G4 := Lib.hid r4; have GB2 := Lib.hid g4
      clear g3 g4 hs2 r3 r4
      go_wp2_with fail
      refine (same5_any [q] [q] _ _ _ G3.out G4.out HQ1.out (by simp)).mono ?_
      rintro e _ ⟨rfl, m2, rfl⟩
      simp only [HQ2.out]
      have g5 : Below wr.heap.size wr (((((wr.alloc (.cells #[.slice B1 q.length e1] 47)).alloc (.cells #[.slice B2 q.length e2] 47)).drewN m1).alloc (.cells #[.slice B3 q.length e3] 47)).drewN m2) := drewN_below2 GB2.out m2
      have hs3 : (((((wr.alloc (.cells #[.slice B1 q.length e1] 47)).alloc (.cells #[.slice B2 q.length e2] 47)).drewN m1).alloc (.cells #[.slice B3 q.length e3] 47)).drewN m2).heap.size = wr.heap.size + 1 + 1 + 1 := by
        show ((((wr.alloc (.cells #[.slice B1 q.length e1] 47)).alloc (.cells #[.slice B2 q.length e2] 47)).drewN m1).alloc (.cells #[.slice B3 q.length e3] 47)).heap.size = _
        rw [World.size_alloc]
        show ((wr.alloc (.cells #[.slice B1 q.length e1] 47)).alloc (.cells #[.slice B2 q.length e2] 47)).heap.size + 1 = _
        simp
      have cS := past_B g5 hzs s0
      have cL := past_B g5 hb4 hc4
      have r5 := (show RdLL (((((wr.alloc (.cells #[.slice B1 q.length e1] 47)).alloc (.cells #[.slice B2 q.length e2] 47)).drewN m1).alloc (.cells #[.slice B3 q.length e3] 47)).drewN m2) 0 (((((wr.alloc (.cells #[.slice B1 q.length e1] 47)).alloc (.cells #[.slice B2 q.length e2] 47)).drewN m1).alloc (.cells #[.slice B3 q.length e3] 47)).drewN m2).heap.size _ [q] from G3.out).nextA (.cells #[.slice B4 q.length e4] 47)
      have r6 := H4.out (((((wr.alloc (.cells #[.slice B1 q.length e1] 47)).alloc (.cells #[.slice B2 q.length e2] 47)).drewN m1).alloc (.cells #[.slice B3 q.length e3] 47)).drewN m2) g5
      rw [hs3] at r6
      have g6 : Below wr.heap.size wr ((((((wr.alloc (.cells #[.slice B1 q.length e1] 47)).alloc (.cells #[.slice B2 q.length e2] 47)).drewN m1).alloc (.cells #[.slice B3 q.length e3] 47)).drewN m2).alloc (.cells #[.slice B4 q.length e4] 47)) := g5.alloc g5.size _
      have G5 := Lib.hid r5; have G6 := Lib.hid r6; have GB3 := Lib.hid g6
      clear g5 g6 hs3 r5 r6
      go_wp2_with fail
      refine (same5_any [q] [q] _ _ _ G5.out G6.out HQ1.out (by simp)).mono ?_
      rintro e _ ⟨rfl, m3, rfl⟩
      simp only [HQ2.out]
      go_wp2_with fail
      go_roundw
      case rel => exact ⟨k + 1, by omega, by go_num, drewN_below2 (BR.out.trans (GB3.out.mono hzr)) m3⟩
      case measure => simp [intOf]; omega
    · clear P QD QN QS
      go_wp2_with fail
      go_ret
      exact ⟨rfl, WB.out⟩
theorem pstays_walk (L : List (List Int)) (o : Bool) (x : Int) (A : Option Addr) (c : Nat) (w : World) (hr : RdLL w 0 w.heap.size (.slice A L.length c) L) (x0 : 0 ≤ x) (x1 : x < 256) (hT : TabI w) : Calls Tryd.prog 11 #[.agg #[.slice A L.length c, .bool o], .int .u8 x] w fun e w' => e = .returned (.bool true) ∧ Below w.heap.size w w' := by
  cases fw : fewF L with
  | false => exact ps_1 L o x A c w hr hT fw
  | true =>
    cases sp : saneP ⟨L, o⟩ with
    | false => exact ps_2 L o x A c w hr hT fw sp
    | true => exact ps_3 L o x A c w hr x0 x1 hT fw sp
end Go.Proofs.YtcempbgbdlmjfaaDoor
