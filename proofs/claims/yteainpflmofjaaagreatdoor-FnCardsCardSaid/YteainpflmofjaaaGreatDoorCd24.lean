/- Cards: what a valid card is, by the program and by the reference. No condition but sizes. -/
import Derived.Test.YteainpflmofjaaaGreatDoorWd
namespace Go.Proofs.YteainpflmofjaaaGreatDoor
open Go.RowKit
theorem ord3 (a b : ByteArray) : (Op.bytesLess b.toList a.toList = true ∧ Op.bytesLess a.toList b.toList = false ∧ (a.toList == b.toList) = false) ∨ (Op.bytesLess b.toList a.toList = false ∧ Op.bytesLess a.toList b.toList = true ∧ (a.toList == b.toList) = false) ∨ (Op.bytesLess b.toList a.toList = false ∧ Op.bytesLess a.toList b.toList = false ∧ (a.toList == b.toList) = true) := by
  have h := leq_not a.toList b.toList
  cases h1 : Op.bytesLess b.toList a.toList <;> cases h2 : Op.bytesLess a.toList b.toList <;> cases h3 : (a.toList == b.toList) <;> simp_all
def wdAt (l : List ByteArray) (k : Nat) : Bool := wordB (gd l k) && (k == 0 || Op.bytesLess (gd l (k - 1)).toList (gd l k).toList)
def cardEnd (x : Crd) : Bool := inB x.id 1 999 && inB x.yr 1500 2100 && inB x.sub.length 1 6
def isCrd (x : Crd) : Bool := allTo (wdAt x.sub) x.sub.length && cardEnd x
theorem isCrd_no {x : Crd} (k : Nat) (hk : k < x.sub.length) (h : wdAt x.sub k = false) : isCrd x = false := by simp [isCrd, allTo_false k hk h]
theorem isCrd_end {x : Crd} (h : ∀ i, i < x.sub.length → wdAt x.sub i = true) : isCrd x = cardEnd x := by simp [isCrd, allTo_true h]
theorem isCrd_bare (x : Crd) : isCrd x.bare = isCrd x := rfl
set_option maxHeartbeats 2000000 in
set_option maxRecDepth 100000 in
theorem isCard_c (x : Crd) (w : World) (h : x.In w) (hs : StrE.Fits x.sub) : Calls Tryz.prog 16 #[.agg #[.int .i64 x.id, .int .i64 x.yr, .slice x.a x.sub.length x.cap]] w fun e w' => e = .returned (.bool (isCrd x)) ∧ Below w.heap.size w w' := by
  have h0 := h
  obtain ⟨xid, xyr, xa, xcap, l⟩ := x
  obtain ⟨a, cap, b, off, hv, hlc, hm, hc⟩ := h
  injection hv with e1 _ e2
  subst e1 e2
  dsimp only at hs hlc hm hc h0 ⊢
  unfold maxLen at hm
  go_enter Tryz.func16, Tryz.ntmps16
  go_wp2_with fail
  go_loopw [8] (fun i wr => ∃ k : Nat, k ≤ l.length ∧ i = .int .i64 k ∧ Hid (∀ i, i < k → wdAt l i = true) ∧ Hid (BoxAt wr w.heap.size [.int .i64 xid, .int .i64 xyr, .slice xa l.length xcap]) ∧ Below w.heap.size w wr) (fun i _ => l.length - (intOf i).toNat)
  case atStart => exact ⟨0, Nat.zero_le _, rfl, fun i hi => by omega, BoxAt.new _ _ _, below_alloc _ _⟩
  case round =>
    obtain ⟨k, hk, rfl, hall, hbx, hb⟩ := hrel
    obtain ⟨hB, y0, y1, y2⟩ : w.heap.size < wr.heap.size ∧ wr.cell? ⟨_, 0, none⟩ = some (.int .i64 xid) ∧ wr.cell? ⟨_, 1, none⟩ = some (.int .i64 xyr) ∧ wr.cell? ⟨_, 2, none⟩ = some (.slice xa l.length xcap) :=
      ⟨hbx.out.1, hbx.out.2 0 _ rfl, hbx.out.2 1 _ rfl, hbx.out.2 2 _ rfl⟩
    by_cases hlt : k < l.length
    · obtain ⟨ha, hbw, c0⟩ := StrE.at (hc.mono hb) k hlt
      subst ha
      have hW := Lib.hid (fun W => isWord_c (gd l k) W (hs k hlt))
      cases h1 : wordB (gd l k)
      · have ho : Hid (wdAt l k = false) := (show wdAt l k = false by simp [wdAt, h1])
        rw [h1] at hW
        clear h1
        go_wp2_with (go_at_call 47; refine (hW.out _).mono ?_; rintro e w' ⟨rfl, hbq⟩; obtain ⟨p, rfl⟩ := ext_of_below hbq; clear hbq)
        go_ret
        exact ⟨ret_bool (isCrd_no (x := ⟨xid, xyr, _, _, l⟩) k hlt ho.out).symm, bext hb hb.size _⟩
      · rw [h1] at hW
        rcases Nat.eq_zero_or_pos k with hk0 | hpos
        · have ho : Hid (wdAt l k = true) := (show wdAt l k = true by rw [wdAt, h1, show (k == 0) = true by simp [hk0]]; rfl)
          have hz : (k : Int) ≤ 0 := by omega
          clear h1 hk0
          go_wp2_with (go_at_call 47; refine (hW.out _).mono ?_; rintro e w' ⟨rfl, hbq⟩; obtain ⟨p, rfl⟩ := ext_of_below hbq; clear hbq)
          go_roundw
          case rel => exact ⟨k + 1, by omega, by go_num, upto_succ hall.out ho.out, hbx.out.mono (below_ext _ _), bext hb hb.size _⟩
          case measure => simp [intOf]; omega
        · obtain ⟨j, rfl⟩ : ∃ j, k = j + 1 := ⟨k - 1, by omega⟩
          obtain ⟨_, _, d0⟩ := StrE.at (hc.mono hb) j (by omega)
          have ho : Hid (wdAt l (j + 1) = Op.bytesLess (gd l j).toList (gd l (j + 1)).toList) := (show wdAt l (j + 1) = _ by simp [wdAt, h1])
          clear h1
          rcases ord3 (gd l (j + 1)) (gd l j) with ⟨o1, o2, o3⟩ | ⟨o1, o2, o3⟩ | ⟨o1, o2, o3⟩
          all_goals
            rw [o1] at ho
            go_wp2_with (go_at_call 47; refine (hW.out _).mono ?_; rintro e w' ⟨rfl, hbq⟩; obtain ⟨p, rfl⟩ := ext_of_below hbq; clear hbq)
          · go_roundw
            case rel => exact ⟨j + 1 + 1, by omega, by go_num, upto_succ hall.out ho.out, hbx.out.mono (below_ext _ _), bext hb hb.size _⟩
            case measure => simp [intOf]; omega
          · go_ret
            exact ⟨ret_bool (isCrd_no (x := ⟨xid, xyr, _, _, l⟩) (j + 1) hlt ho.out).symm, bext hb hb.size _⟩
          · go_ret
            exact ⟨ret_bool (isCrd_no (x := ⟨xid, xyr, _, _, l⟩) (j + 1) hlt ho.out).symm, bext hb hb.size _⟩
    · obtain rfl : k = l.length := by omega
      have he := Lib.hid (isCrd_end (x := ⟨xid, xyr, xa, xcap, l⟩) hall.out)
      clear hall hc h0
      go_wp2_with (first | (go_at_call 48; refine (isId_c _ _).mono ?_; rintro e w' ⟨rfl, rfl⟩) | (go_at_call 49; refine (isYear_c _ _).mono ?_; rintro e w' ⟨rfl, rfl⟩) | (go_at_call 50; refine (within_c _ _ _ _).mono ?_; rintro e w' ⟨rfl, rfl⟩))
      all_goals go_ret
      all_goals refine ⟨ret_bool ?_, hb⟩
      all_goals rw [he.out, cardEnd]
      all_goals simp_all
set_option maxHeartbeats 400000 in
theorem l24Year_c (x : Int) (w : World) : Calls Tryz.prog 79 #[.int .i64 x] w fun e w' => e = .returned (.bool (inB x 1500 2100)) ∧ w = w' := by
  go_enter Tryz.func79, Tryz.ntmps79
  go_wp2_with (go_at_call 59; refine (l1In_c _ _ _ _).mono ?_; rintro e w' ⟨rfl, rfl⟩)
  go_ret
  exact ⟨rfl, rfl⟩
/-- at most six words, all of them words -/
def words6 (l : List ByteArray) : Bool := decide (l.length ≤ 6) && allTo (fun i => wordB (gd l i)) l.length
theorem words6_no {l : List ByteArray} (k : Nat) (hk : k < l.length) (h : wordB (gd l k) = false) : words6 l = false := by simp [words6, allTo_false (f := fun i => wordB (gd l i)) k hk h]
theorem words6_long {l : List ByteArray} (h : ¬ l.length ≤ 6) : words6 l = false := by simp [words6, h]
theorem words6_yes {l : List ByteArray} (h : ∀ i, i < l.length → wordB (gd l i) = true) (h6 : l.length ≤ 6) : words6 l = true := by simp [words6, allTo_true (f := fun i => wordB (gd l i)) h, h6]
set_option maxHeartbeats 1000000 in
set_option maxRecDepth 100000 in
theorem l24Words_c (v : Value) (l : List ByteArray) (w : World) (h : Sl w StrE.enc 1 v l) (hs : StrE.Fits l) : Calls Tryz.prog 33 #[v] w fun e w' => e = .returned (.bool (words6 l)) ∧ w = w' := by
  obtain ⟨a, cap, b, off, rfl, hlc, hm, hc⟩ := h
  unfold maxLen at hm
  go_enter Tryz.func33, Tryz.ntmps33
  go_wp2_with fail
  go_loop [3] (fun i => ∃ k : Nat, k ≤ l.length ∧ k ≤ 7 ∧ i = .int .i64 k ∧ Hid (∀ i, i < k → wordB (gd l i) = true)) (fun i => l.length - (intOf i).toNat)
  case atStart => exact ⟨0, Nat.zero_le _, by omega, rfl, fun i hi => by omega⟩
  case round =>
    obtain ⟨k, hk, hk7, rfl, hall⟩ := hrel
    by_cases hlt : k < l.length ∧ k < 7
    · obtain ⟨hlt, hlt7⟩ := hlt
      obtain ⟨rfl, hbw, c0⟩ := StrE.at hc k hlt
      have hW := Lib.hid (fun W => l2Word_c (gd l k) W (hs k hlt))
      cases h1 : wordB (gd l k)
      all_goals
        rw [h1] at hW
        have h1 := Lib.hid h1
        go_wp2_with (go_at_call 72; refine (hW.out _).mono ?_; rintro e w' ⟨rfl, rfl⟩)
      · go_ret
        exact ⟨ret_bool (words6_no k hlt h1.out).symm, rfl⟩
      · go_round
        case rel => exact ⟨k + 1, by omega, by omega, by go_num, upto_succ hall.out h1.out⟩
        case measure => simp [intOf]; omega
    · by_cases h6 : l.length ≤ 6
      · obtain rfl : k = l.length := by omega
        have he := Lib.hid (words6_yes hall.out h6)
        go_wp2_with fail
        go_ret
        exact ⟨ret_bool (by rw [he.out]; exact decide_eq_true (by omega)), rfl⟩
      · have he := Lib.hid (words6_long h6)
        obtain rfl : k = 7 := by omega
        go_wp2_with fail
        all_goals go_ret
        all_goals exact ⟨ret_bool (by rw [he.out]; exact decide_eq_false (by omega)), rfl⟩
theorem allTo_and (f g : Nat → Bool) (n : Nat) : allTo (fun i => f i && g i) n = (allTo f n && allTo g n) := by
  rw [Bool.eq_iff_iff, Bool.and_eq_true, allTo_iff, allTo_iff, allTo_iff]
  constructor
  · intro h; exact ⟨fun i hi => by have := h i hi; simp at this; exact this.1, fun i hi => by have := h i hi; simp at this; exact this.2⟩
  · intro h i hi; simp [h.1 i hi, h.2 i hi]
def upAt (l : List ByteArray) (i : Nat) : Bool := i == 0 || Op.bytesLess (gd l (i - 1)).toList (gd l i).toList
theorem isCrd_words (x : Crd) : isCrd x = (inB x.id 1 999 && inB x.yr 1500 2100 && decide (0 < x.sub.length) && words6 x.sub && allTo (upAt x.sub) x.sub.length) := by
  have h : isCrd x = ((allTo (fun i => wordB (gd x.sub i)) x.sub.length && allTo (upAt x.sub) x.sub.length) && cardEnd x) := by
    rw [isCrd, ← allTo_and]; rfl
  rw [h, cardEnd, words6]
  have e : inB (x.sub.length : Int) 1 6 = (decide (0 < x.sub.length) && decide (x.sub.length ≤ 6)) := by
    rw [Bool.eq_iff_iff, inB_iff]; simp; omega
  rw [e]
  cases inB x.id 1 999 <;> cases inB x.yr 1500 2100 <;> cases decide (0 < x.sub.length) <;> cases decide (x.sub.length ≤ 6) <;> cases allTo (fun i => wordB (gd x.sub i)) x.sub.length <;> cases allTo (upAt x.sub) x.sub.length <;> rfl
set_option maxHeartbeats 2000000 in
set_option maxRecDepth 100000 in
theorem l24One_c (x : Crd) (w : World) (h : x.In w) (hs : StrE.Fits x.sub) : Calls Tryz.prog 45 #[.agg #[.int .i64 x.id, .int .i64 x.yr, .slice x.a x.sub.length x.cap]] w fun e w' => e = .returned (.bool (isCrd x)) ∧ Below w.heap.size w w' := by
  rw [isCrd_words]
  have h0 := Lib.hid h
  have hW := fun W h => l24Words_c (.slice x.a x.sub.length x.cap) x.sub W h hs
  obtain ⟨xid, xyr, xa, xcap, l⟩ := x
  obtain ⟨a, cap, b, off, hv, hlc, hm, hc⟩ := h
  injection hv with e1 _ e2
  subst e1 e2
  dsimp only at hs hlc hm hc hW ⊢
  unfold maxLen at hm
  by_cases hok : inB xid 1 999 = true ∧ inB xyr 1500 2100 = true ∧ 0 < l.length ∧ words6 l = true
  · obtain ⟨h1, h2, h3, h4⟩ := hok
    rw [h1, h2, h4, decide_eq_true h3]
    rw [h4] at hW
    replace hW := Lib.hid hW
    clear h4
    have l1 : ∀ W, Calls Tryz.prog 59 #[.int .i64 xid, .int .i64 1, .int .i64 999] W fun e w' => e = .returned (.bool true) ∧ W = w' := fun W => h1 ▸ l1In_c xid 1 999 W
    have l2 : ∀ W, Calls Tryz.prog 79 #[.int .i64 xyr] W fun e w' => e = .returned (.bool true) ∧ W = w' := fun W => h2 ▸ l24Year_c xyr W
    replace l1 := Lib.hid l1
    replace l2 := Lib.hid l2
    clear h1 h2
    have h3' : ((l.length : Int) == 0) = false := by simp; rintro rfl; simp at h3
    go_enter Tryz.func45, Tryz.ntmps45
    go_wp2_with (first | (go_at_call 59; refine (l1.out _).mono ?_; rintro e w' ⟨rfl, rfl⟩) | (go_at_call 79; refine (l2.out _).mono ?_; rintro e w' ⟨rfl, rfl⟩) | (go_at_call 33; refine (hW.out _ (h0.out.mono (below_alloc _ _))).mono ?_; rintro e w' ⟨rfl, rfl⟩))
    go_loopw [3] (fun i wr => ∃ k : Nat, 1 ≤ k ∧ k ≤ l.length ∧ i = .int .i64 k ∧ Hid (∀ i, i < k → upAt l i = true) ∧ Hid (BoxAt wr w.heap.size [.int .i64 xid, .int .i64 xyr, .slice xa l.length xcap]) ∧ Below w.heap.size w wr) (fun i _ => l.length - (intOf i).toNat)
    case atStart => exact ⟨1, by omega, by omega, rfl, fun i hi => by obtain rfl : i = 0 := by omega
                                                                      rfl, BoxAt.new _ _ _, below_alloc _ _⟩
    case round =>
      obtain ⟨k, hk1, hk, rfl, hall, hbx, hb⟩ := hrel
      obtain ⟨hB, y0, y1, y2⟩ : w.heap.size < wr.heap.size ∧ wr.cell? ⟨_, 0, none⟩ = some (.int .i64 xid) ∧ wr.cell? ⟨_, 1, none⟩ = some (.int .i64 xyr) ∧ wr.cell? ⟨_, 2, none⟩ = some (.slice xa l.length xcap) :=
        ⟨hbx.out.1, hbx.out.2 0 _ rfl, hbx.out.2 1 _ rfl, hbx.out.2 2 _ rfl⟩
      by_cases hlt : k < l.length
      · obtain ⟨j, rfl⟩ : ∃ j, k = j + 1 := ⟨k - 1, by omega⟩
        obtain ⟨ha, hbw, c0⟩ := StrE.at (hc.mono hb) (j + 1) hlt
        subst ha
        obtain ⟨_, _, d0⟩ := StrE.at (hc.mono hb) j (by omega)
        have ho : Hid (upAt l (j + 1) = Op.bytesLess (gd l j).toList (gd l (j + 1)).toList) := (show upAt l (j + 1) = _ by simp [upAt])
        cases h1 : Op.bytesLess (gd l j).toList (gd l (j + 1)).toList
        all_goals
          rw [h1] at ho
          go_wp2_with fail
          refine wp_region_ext (by kernel_rfl) (by kernel_rfl) ?_
          repeat (any_goals (first | go_big_quiet_step (fail)))
          refine wpQuiet_nil ?_
          rintro _ ⟨q, rfl⟩
          go_wp2_with fail
        · go_ret
          exact ⟨ret_bool (by rw [allTo_false (f := upAt l) (j + 1) hlt ho.out]; rfl), bext hb hb.size _⟩
        · go_roundw
          case rel => exact ⟨j + 1 + 1, by omega, by omega, by go_num, upto_succ hall.out ho.out, hbx.out.mono (below_ext _ _), bext hb hb.size _⟩
          case measure => simp [intOf]; omega
      · obtain rfl : k = l.length := by omega
        go_wp2_with fail
        go_ret
        exact ⟨ret_bool (by rw [allTo_true hall.out]; rfl), hb⟩
  · have hf : (inB xid 1 999 && inB xyr 1500 2100 && decide (0 < l.length) && words6 l && allTo (upAt l) l.length) = false := by
      cases h1 : inB xid 1 999 <;> cases h2 : inB xyr 1500 2100 <;> cases h4 : words6 l <;> by_cases h3 : 0 < l.length <;> simp_all
    rw [hf]
    clear hf
    replace hW := Lib.hid hW
    go_enter Tryz.func45, Tryz.ntmps45
    go_wp2_with (first | (go_at_call 59; refine (l1In_c _ _ _ _).mono ?_; rintro e w' ⟨rfl, rfl⟩) | (go_at_call 79; refine (l24Year_c _ _).mono ?_; rintro e w' ⟨rfl, rfl⟩) | (go_at_call 33; refine (hW.out _ (h0.out.mono (below_alloc _ _))).mono ?_; rintro e w' ⟨rfl, rfl⟩))
    all_goals first
      | (go_ret
         exact ⟨rfl, below_alloc _ _⟩)
      | (exfalso; simp_all; done)
      | (exfalso; simp_all; omega)
end Go.Proofs.YteainpflmofjaaaGreatDoor