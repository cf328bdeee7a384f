/-
  utf: the walks of Put and All, and of the laws' awake.
-/
import Derived.Test.YtcempbgbdlmjfaaUtG
import Derived.Test.YtcempbgbdlmjfaaShelf
namespace Go.Proofs.Ytcempbgbdlmjfaa
open Go.RowKit

theorem append_rune (r : Int) (h : Letter r) (w : World) :
    Calls Try.prog 55 #[.slice none 0 0, .int .i32 r] w fun e w' => ∃ A c, e = .returned (.slice A (encF r).length c) ∧
      w'.ownsRow w.heap.size 5 1 (.slice A (encF r).length c) (encF r).length (byteCells (encF r)) ∧ Below w.heap.size w w' := by
  have e := runeCells_enc r h
  unfold Letter at h
  refine (Try.utf8_AppendRune_plain w.heap.size (.slice none 0 0) 0 [] r (by omega) (by omega) w (World.ownsRow_nil _ _ _ _) (by omega) (Nat.le_refl _)).mono ?_
  rintro e' w' ⟨v', rfl, hown, o, hg⟩
  rw [e, byteCells_len, Nat.zero_add, List.nil_append] at hown
  obtain ⟨A, c, rfl, _⟩ := own_slice hown
  exact ⟨A, c, rfl, hown, ((Below.refl _ _).alloc (Nat.le_refl _) o).trans (below_of_grown hg (by simp) (by simp [Value.ownBlock]))⟩

set_option maxRecDepth 100000 in
set_option maxHeartbeats 1600000 in
theorem put_any (r : Int) (w : World) :
    Calls Try.prog 40 #[.int .i64 r] w fun e w' => ∃ A c, e = .returned (.slice A (putF r).length c) ∧
      w'.ownsRow w.heap.size 5 1 (.slice A (putF r).length c) (putF r).length (byteCells (putF r)) ∧ Below w.heap.size w w' := by
  by_cases h1 : r < 0
  · have e : putF r = encF 65533 := by
      have : okR r = 65533 := by unfold okR; split <;> omega
      simp [putF, this]
    rw [e]
    go_enter Try.func40, Try.ntmps40
    go_wp2_with (go_at_call 55; refine (append_rune 65533 (by unfold Letter; omega) _).mono ?_; rintro e w1 ⟨A, c, rfl, ho, hb⟩)
    go_ret
    exact ⟨A, c, rfl, ho, hb⟩
  by_cases h2 : 1114111 < r
  · have e : putF r = encF 65533 := by
      have : okR r = 65533 := by unfold okR; split <;> omega
      simp [putF, this]
    rw [e]
    go_enter Try.func40, Try.ntmps40
    go_wp2_with (go_at_call 55; refine (append_rune 65533 (by unfold Letter; omega) _).mono ?_; rintro e w1 ⟨A, c, rfl, ho, hb⟩)
    go_ret
    exact ⟨A, c, rfl, ho, hb⟩
  by_cases h3 : r < 55296
  · have e : putF r = encF r := by
      have : okR r = r := by unfold okR; split <;> omega
      simp [putF, this]
    rw [e]
    go_enter Try.func40, Try.ntmps40
    go_wp2_with (go_at_call 55; refine (append_rune r (by unfold Letter; omega) _).mono ?_; rintro e w1 ⟨A, c, rfl, ho, hb⟩)
    go_ret
    exact ⟨A, c, rfl, ho, hb⟩
  by_cases h4 : r ≤ 57343
  · have e : putF r = encF 65533 := by
      have : okR r = 65533 := by unfold okR; split <;> omega
      simp [putF, this]
    rw [e]
    go_enter Try.func40, Try.ntmps40
    go_wp2_with (go_at_call 55; refine (append_rune 65533 (by unfold Letter; omega) _).mono ?_; rintro e w1 ⟨A, c, rfl, ho, hb⟩)
    go_ret
    exact ⟨A, c, rfl, ho, hb⟩
  · have e : putF r = encF r := by
      have : okR r = r := by unfold okR; split <;> omega
      simp [putF, this]
    rw [e]
    go_enter Try.func40, Try.ntmps40
    go_wp2_with (go_at_call 55; refine (append_rune r (by unfold Letter; omega) _).mono ?_; rintro e w1 ⟨A, c, rfl, ho, hb⟩)
    go_ret
    exact ⟨A, c, rfl, ho, hb⟩

theorem grown_lies_below {w w' : World} {v : Value} {B : Nat} (hg : w.grownBy w' v.ownBlock) (hB : B ≤ w.heap.size) (hl : ∀ g, v.ownBlock = some g → B ≤ g) : Below B w w' := below_of_grown hg hB hl

set_option maxRecDepth 100000 in
set_option maxHeartbeats 1600000 in
theorem all_any (b : List Int) (A : Option Addr) (c : Nat) (w : World) (B : Nat) (hB : B ≤ w.heap.size) (hr0 : Rd w B A (byteCells b)) (hb : Bytes b) (hl : b.length ≤ 10000) :
    Calls Try.prog 29 #[.slice A b.length c] w fun e w' => ∃ A' c', e = .returned (.slice A' (allF b).length c') ∧
      w'.ownsRow w.heap.size 3 1 (.slice A' (allF b).length c') (allF b).length (intCells (allF b)) ∧ Below w.heap.size w w' := by
  have hs := feed_sane b
  have hfl := feed_count b
  have hen : (endF (feedF b).1).length ≤ 1 := by unfold endF; split <;> simp
  have HS := Lib.hid hs; clear hs
  have hbf : Bytes (feedF b).1 := by
    intro y hy
    exact hb y (feed_sub b y hy)
  have HB := Lib.hid hb; have HBF := Lib.hid hbf; clear hb hbf
  go_enter Try.func29, Try.ntmps29
  go_wp2_with (first
    | (go_at_call 26; refine (feed_any [] b none A 0 c _ B hB (Rd.nil _ _ _) hr0 rfl (by intro y hy; simp at hy) HB.out hl).mono ?_; rintro e w1 ⟨A3, c3, A4, c4, rfl, ho3, ho4, hb1⟩; simp only [List.nil_append] at ho3 ho4 ⊢; have rd3 := (Rd.of_own ho3).nextA (.cells #[.slice A3 (feedF b).1.length c3] 45))
    | (go_at_call 41; refine (end_any (feedF b).1 A3 c3 _ _ (Nat.le_refl _) rd3 HBF.out (by unfold maxLen; omega)).mono ?_; rintro e w2 ⟨A5, c5, rfl, ho5, hb2⟩; have ho6 := own_past (ho4.alloc _) hb2; have m1 := hb1.size; have m2 := hb2.size; have rd5 := Rd.of_own ho5)
    | (at_builtin; go_loud (refine wpList_cat (by rfl) (.tmp 11) (.tmp 13) 43 el_int (by rfl) w.heap.size _ (feedF b).2.length (intCells (feedF b).2) (by rfl) ho6 w2.heap.size A5 (endF (feedF b).1).length c5 (intCells (endF (feedF b).1)) (by rfl) rd5 (by simp [intCells]) (intCells_one _) (by unfold maxLen; omega) (by omega) (by simp at m2; omega) ?_); intro A7 c7 w7 hown7 hgrow7 hlies7))
  go_ret
  simp at m2
  refine ⟨A7, c7, ?_, ?_, ?_⟩
  · simp [allF]
  · simpa [allF, intCells] using hown7
  · exact bt (bt (hb1.alloc m1 _) hb2 (by simp; omega)) (below_of_grown hgrow7 (show w.heap.size ≤ _ by omega) (own_ge ho6)) (Nat.le_refl _)

set_option maxRecDepth 100000 in
set_option maxHeartbeats 400000 in
theorem awake3_any (w : World) : Calls Try.prog 25 #[] w fun e w' => e = .returned (.bool true) ∧ Below w.heap.size w w' := by
  have f1 : feedF [226, 130] = ([226, 130], []) := by decide
  have f2 : feedF [226, 130, 65] = ([], [65533, 65]) := by decide
  have F1 := Lib.hid f1; have F2 := Lib.hid f2; clear f1 f2
  have rb1 : Rd (w.alloc (.cells #[.int .u8 226, .int .u8 130] 5)) (w.heap.size + 1) (some ⟨w.heap.size, 0, none⟩) (byteCells [226, 130]) := rd_of_block (cs := [.int .u8 226, .int .u8 130]) (heap_alloc_new w _) (by omega)
  go_enter Try.func25, Try.ntmps25
  go_wp2_with fail
  refine (feed_any [] [226, 130] none _ 0 2 _ (w.heap.size + 1) (by simp) (Rd.nil _ _ _) rb1 rfl (by intro y hy; simp at hy) (by intro y hy; simp at hy; omega) (by simp)).mono ?_
  rintro e w1 ⟨A3, c3, A4, c4, rfl, ho3, ho4, hb1⟩
  simp only [List.nil_append, F1.out, List.length_cons, List.length_nil, Nat.zero_add, Nat.reduceAdd] at ho3 ho4 ⊢
  have m1 := hb1.size
  simp at m1
  have rd3 := ((Rd.of_own ho3).nextA (.cells #[.slice A3 2 c3] 45)).nextA (.cells #[.int .u8 65] 5)
  have rb2 : Rd ((w1.alloc (.cells #[.slice A3 2 c3] 45)).alloc (.cells #[.int .u8 65] 5)) ((w1.alloc (.cells #[.slice A3 2 c3] 45)).alloc (.cells #[.int .u8 65] 5)).heap.size (some ⟨w1.heap.size + 1, 0, none⟩) (byteCells [65]) := rd_of_block (cs := [.int .u8 65]) (heap_new_at (by simp)) (by simp)
  go_wp2_with fail
  refine (feed_any [226, 130] [65] A3 _ c3 1 _ _ (Nat.le_refl _) rd3 rb2 (by decide) (by intro y hy; simp at hy; omega) (by intro y hy; simp at hy; omega) (by simp)).mono ?_
  rintro e w2 ⟨A5, c5, A6, c6, rfl, ho5, ho6, hb2⟩
  simp only [List.cons_append, List.nil_append, F2.out, List.length_cons, List.length_nil, Nat.zero_add, Nat.reduceAdd] at ho5 ho6 ⊢
  obtain ⟨hc, _⟩ := bcell hb2
  have hz := hb2.size
  simp at hz
  obtain ⟨g, cap, hv, hbg, hglt⟩ := ho6.form (by omega)
  injection hv with e1 e2 e3; subst e1; subst e3
  have q1 : w2.cell? ⟨w1.heap.size, 0, none⟩ = some (.slice A3 2 c3) := by rw [hc _ _ (by simp; omega)]; simp
  have k0 := (World.cell?_alloc_lt w2 (.cells #[.slice A5 0 c5] 45) ⟨g, 0, none⟩ hglt).trans (by exact ho6.cells (g := g) rfl 0 _ rfl)
  have k1 := (World.cell?_alloc_lt w2 (.cells #[.slice A5 0 c5] 45) ⟨g, 1, none⟩ hglt).trans (by exact ho6.cells (g := g) rfl 1 _ rfl)
  have q2 := (World.cell?_alloc_lt w2 (.cells #[.slice A5 0 c5] 45) ⟨w1.heap.size, 0, none⟩ (by simp; omega)).trans q1
  have hbl := bt (bt ((Below.refl w.heap.size w).alloc (Nat.le_refl _) _) hb1 (by simp)) ((((Below.refl _ _).alloc (by omega) _).alloc (by simp; omega) _).trans (hb2.mono (by simp; omega))) (Nat.le_refl _)
  clear hc hb1 hb2 ho3 ho4 ho5 ho6 rd3
  go_wp2_with fail
  go_ret
  exact ⟨rfl, hbl.alloc (by omega) _⟩
end Go.Proofs.Ytcempbgbdlmjfaa
