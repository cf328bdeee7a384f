/-
  ranges: the walk of numbers.
-/
import Derived.Test.YtcempbgbdlmjfaaRbB
namespace Go.Proofs.Ytcempbgbdlmjfaa
open Go.RowKit

theorem el_u8 : El Try.prog 42 5 1 1 := El.mk' Try.underlying42 (z := .int .u8 0) (by kernel_rfl) rfl (by omega)
theorem Grew.push {base : Nat} {e : TypeId} {sz : Nat} {w wr w5 : World} {v v1 : Value} {n : Nat} {xs cs : List Value} {o : Obj} {g cap : Nat} (h : Grew base e sz w v wr v1 n xs) (ho : w5.ownsRow base e sz (.slice (some ⟨g, 0, none⟩) (n + 1) cap) (n + 1) (xs ++ cs))
    (hg : (wr.alloc o).grownBy w5 v1.ownBlock) (hl : v1.ownBlock = some g ∨ g = wr.heap.size + 1) : Grew base e sz w v w5 (.slice (some ⟨g, 0, none⟩) (n + 1) cap) (n + 1) (xs ++ cs) := by
  refine ⟨ho, grown_trans (grown_alloc h.grown o) hg h.lies, fun k hk => ?_⟩
  simp only [Value.ownBlock, Option.some.injEq] at hk
  subst hk
  rcases hl with hl | hl
  · exact h.lies g hl
  · exact .inr (by have := h.grown.size; omega)
theorem grew_refl {base : Nat} {e : TypeId} {sz : Nat} {w : World} {v : Value} {n : Nat} {xs : List Value} (h : w.ownsRow base e sz v n xs) : Grew base e sz w v w v n xs := ⟨h, World.grownBy.refl _ _, fun _ hg => .inl hg⟩
theorem bC_append (a b : List Int) : bC (a ++ b) = bC a ++ bC b := List.map_append

theorem low7 (m : Int) (h0 : 0 ≤ m) (h1 : m < 268435456) : bits .or .i64 (bits .and .i64 m 127) 128 % 256 = m % 128 + 128 := by
  obtain ⟨a, rfl⟩ := Int.eq_ofNat_of_zero_le h0
  have e : bits .and .i64 (a : Int) 127 = ((a % 128 : Nat) : Int) := by
    have ha : a < 18446744073709551616 := by omega
    have := and_low (a : Int) 7 (by omega) 127 (by decide)
    rw [this, BitVec.ofInt_natCast, BitVec.toNat_ofNat, Nat.mod_eq_of_lt (a := a) (by omega)]
  have o : ∀ k : Fin 128, bits .or .i64 (k.1 : Int) 128 % 256 = (k.1 : Int) + 128 := by decide +kernel
  rw [e, o ⟨a % 128, Nat.mod_lt _ (by omega)⟩]
  simp
theorem flat_len (ns : List Int) : (ns.flatMap numF).length ≤ 10 * ns.length := by
  induction ns with
  | nil => simp
  | cons x xs ih =>
    have h : (numF x).length ≤ 10 := numG_len 9 x
    simp only [List.flatMap_cons, List.length_append, List.length_cons]; omega
theorem numG_ge (f : Nat) (m : Int) (h : 128 ≤ m) : numG (f + 1) m = (m % 128 + 128) :: numG f (m / 128) := by rw [numG, if_neg (by omega)]
theorem numG_lt (f : Nat) (m : Int) (h : m < 128) : numG f m = [m] := by
  cases f with
  | zero => rfl
  | succ f => rw [numG, if_pos h]

set_option maxRecDepth 100000 in
set_option maxHeartbeats 3200000 in
theorem numbers_any (bs ns : List Int) (A : Option Addr) (c gn cl : Nat) (w : World) (base : Nat) (hbase : base ≤ w.heap.size) (hown : w.ownsRow base 5 1 (.slice A bs.length c) bs.length (bC bs))
    (hn : w.heap[gn]? = some (.cells (nC ns).toArray 3 (0, 0))) (hne : (Value.slice A bs.length c).ownBlock ≠ some gn) (hns : ∀ n ∈ ns, 0 ≤ n ∧ n < 268435456) (hl : ns.length ≤ 3) (hbl : bs.length ≤ 200000) :
    Calls Try.prog 53 #[.slice A bs.length c, .slice (some ⟨gn, 0, none⟩) ns.length cl] w fun e w' => ∃ A' c', e = .returned (.slice A' (bs ++ ns.flatMap numF).length c') ∧
      Grew base 5 1 w (.slice A bs.length c) w' (.slice A' (bs ++ ns.flatMap numF).length c') (bs ++ ns.flatMap numF).length (bC (bs ++ ns.flatMap numF)) := by
  have h0 := grew_refl hown
  have hgn : gn < w.heap.size := bk_lt hn
  have HN := Lib.hid hn; have H0 := Lib.hid h0; have HNE := Lib.hid hne
  clear hn h0 hne hown
  go_enter Try.func53, Try.ntmps53
  go_wp2
  go_loopw [0, 9] (fun s0 i wr => ∃ (j : Nat) (cur : List Int) (A1 : Option Addr) (c1 : Nat), j ≤ ns.length ∧ i = .int .i64 j ∧ s0 = .slice A1 cur.length c1 ∧ cur = bs ++ (ns.take j).flatMap numF ∧ Grew base 5 1 w (.slice A bs.length c) wr (.slice A1 cur.length c1) cur.length (bC cur)) (fun _ i _ => ns.length - (intOf i).toNat)
  case atStart => exact ⟨0, bs, A, c, Nat.zero_le _, rfl, rfl, by simp, H0.out⟩
  case round =>
    obtain ⟨j, cur, A1, c1, hj, rfl, rfl, hcur, hgr⟩ := hrel
    have HG := Lib.hid hgr; have HC := Lib.hid hcur
    have hn1 := bk_grown HN.out hgr.grown HNE.out
    clear hgr hcur H0
    by_cases hlt : j < ns.length
    · have hx := hns ns[j] (List.getElem_mem hlt)
      have hxc := bk_cell hn1 j (.int .i64 ns[j]) (by simp [nC, hlt])
      obtain ⟨x, hxe⟩ : ∃ x, ns[j] = x := ⟨_, rfl⟩
      rw [hxe] at hx hxc
      have HX := Lib.hid hxe
      clear hxe hn1
      go_wp2
      go_loopw [0, 6] (fun s0 s6 wi => ∃ (m : Int) (f : Nat) (cu : List Int) (A2 : Option Addr) (c2 : Nat), s6 = .int .i64 m ∧ 0 ≤ m ∧ m < 268435456 ∧ m < 128 ^ (f + 1) ∧ s0 = .slice A2 cu.length c2 ∧ cu ++ numG f m = cur ++ numF x ∧ Grew base 5 1 w (.slice A bs.length c) wi (.slice A2 cu.length c2) cu.length (bC cu)) (fun _ s6 _ => (intOf s6).toNat)
      case atStart => exact ⟨x, 9, cur, A1, c1, rfl, hx.1, hx.2, by omega, rfl, rfl, HG.out⟩
      case round =>
        obtain ⟨m, f, cu, A2, c2, rfl, hm0, hm1, hmf, rfl, hcu, hg2⟩ := hrel
        have HG2 := Lib.hid hg2; have HCU := Lib.hid hcu
        clear hg2 hcu
        have hlc : cu.length + (numG f m).length = cur.length + (numF x).length := by have := congrArg List.length HCU.out; simpa using this
        have hl2 := numG_len 9 x
        have hl3 : cur.length ≤ bs.length + 10 * j := by
          rw [HC.out, List.length_append]
          have := flat_len (ns.take j)
          rw [List.length_take] at this
          omega
        have hl4 : cu.length ≤ 200060 := by unfold numF at hlc; omega
        have hws : base ≤ wr.heap.size := by have := HG2.out.grown.size; omega
        clear hl2 hl3 hlc
        by_cases h128 : 128 ≤ m
        · have d1 : decide (128 ≤ m) = true := by simp; omega
          have hlow := low7 m hm0 hm1
          obtain ⟨f, rfl⟩ : ∃ q, f = q + 1 := by
            cases f with
            | zero => simp at hmf; omega
            | succ q => exact ⟨q, rfl⟩
          have hcu2 := HCU.out
          rw [numG_ge f m h128] at hcu2
          have HCU2 := Lib.hid hcu2
          have hmf2 : m / 128 < 128 ^ (f + 1) := by rw [Int.pow_succ] at hmf; omega
          have HMF2 := Lib.hid hmf2
          clear hcu2 hmf2 hmf HCU
          go_wp2_with (at_builtin; go_loud (refine wpList_push (by rfl) (.tmp 15) (.tmp 20) 42 el_u8 (by rfl) base _ cu.length (bC cu) (by rfl) (HG2.out.own.alloc _) wr.heap.size 1 [.int .u8 (m % 128 + 128)] (by rfl) (heap_alloc_new wr _) rfl (by simp [Value.oneCell']) (by unfold maxLen; omega) (by omega) (by simp; omega) (wr.heap.size + 1) (by simp) ?_); intro g5 cap5 w5 ho5 hg5 hl5; have HP := Lib.hid (HG2.out.push ho5 hg5 hl5); clear ho5 hg5 hl5)
          go_roundw
          case rel =>
            refine ⟨m / 128, f, cu ++ [m % 128 + 128], some ⟨g5, 0, none⟩, cap5, rfl, by omega, by omega, HMF2.out, by simp, by rw [List.append_assoc]; exact HCU2.out, ?_⟩
            have := HP.out
            rw [bC_append, List.length_append]
            exact this
          case measure => simp [intOf]; omega
        · have d1 : decide (128 ≤ m) = false := by simp; omega
          have hcu2 := HCU.out
          rw [numG_lt f m (by omega)] at hcu2
          have HCU2 := Lib.hid hcu2
          clear hcu2 hmf HCU
          go_wp2_with (at_builtin; go_loud (refine wpList_push (by rfl) (.tmp 24) (.tmp 27) 42 el_u8 (by rfl) base _ cu.length (bC cu) (by rfl) (HG2.out.own.alloc _) wr.heap.size 1 [.int .u8 m] (by rfl) (heap_alloc_new wr _) rfl (by simp [Value.oneCell']) (by unfold maxLen; omega) (by omega) (by simp; omega) (wr.heap.size + 1) (by simp) ?_); intro g5 cap5 w5 ho5 hg5 hl5; have HP := Lib.hid (HG2.out.push ho5 hg5 hl5); clear ho5 hg5 hl5)
          go_roundw
          case rel =>
            refine ⟨j + 1, cu ++ [m], some ⟨g5, 0, none⟩, cap5, by omega, by go_num, by simp, ?_, ?_⟩
            · rw [HCU2.out, HC.out, List.take_succ_eq_append_getElem hlt, List.flatMap_append, HX.out]
              simp
            · have := HP.out
              rw [bC_append, List.length_append]
              exact this
          case measure => simp [intOf]; omega
    · obtain rfl : j = ns.length := by omega
      have hc := HC.out
      rw [List.take_length] at hc
      subst hc
      go_wp2
      go_ret
      exact ⟨_, _, rfl, HG.out⟩
end Go.Proofs.Ytcempbgbdlmjfaa
