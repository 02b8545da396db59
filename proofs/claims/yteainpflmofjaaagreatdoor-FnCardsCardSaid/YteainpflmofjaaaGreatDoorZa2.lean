/- The text of a card: by the program and by the reference. Condition: Go's table of powers of ten reads as it is laid. Plain facts for reading a card: decimal digits read back; a text cut at a byte; the text of a card cut at blanks. No condition. Reading a card: what any reading answers that takes the parts of a text and looks whether the card's text is that text. Plain facts. No condition. Words, a card and a card's text drawn from bytes: the arguments of FnCards. No condition but sizes. -/
import Derived.Test.YteainpflmofjaaaGreatDoorZa1
import Derived.Test.YteainpflmofjaaaGreatDoorCd24
import Derived.Lib.AtoiTie
import Derived.Lib.ItoaMem
import Derived.Lib.SplitLaws
import Derived.Test.YteainpflmofjaaaGreatDoorDb24
import Derived.Test.YteainpflmofjaaaGreatDoorSpl
namespace Go.Proofs.YteainpflmofjaaaGreatDoor
open Go.RowKit
def blank : ByteArray := ⟨#[32]⟩
def colon : ByteArray := ⟨#[58]⟩
/-- the text with its first k words -/
def cdT (x : Crd) : Nat → ByteArray
  | 0 => ((numT x.id ++ blank) ++ numT x.yr) ++ colon
  | k + 1 => (cdT x k ++ blank) ++ gd x.sub k
def cdS (x : Crd) : ByteArray := if isCrd x then cdT x x.sub.length else ⟨#[]⟩
theorem cdT_at (i y : Int) (a a' : Option Addr) (c c' : Nat) (s : List ByteArray) : ∀ k, cdT ⟨i, y, a, c, s⟩ k = cdT ⟨i, y, a', c', s⟩ k
  | 0 => rfl
  | k + 1 => by
    show (cdT ⟨i, y, a, c, s⟩ k ++ blank) ++ gd s k = (cdT ⟨i, y, a', c', s⟩ k ++ blank) ++ gd s k
    rw [cdT_at i y a a' c c' s k]
theorem cdS_at (i y : Int) (a : Option Addr) (c : Nat) (s : List ByteArray) : cdS ⟨i, y, a, c, s⟩ = cdS ⟨i, y, none, 0, s⟩ := by
  show (if isCrd ⟨i, y, a, c, s⟩ then _ else _) = (if isCrd ⟨i, y, a, c, s⟩ then _ else _)
  rw [cdT_at i y a none c 0 s]
theorem cdT_size (x : Crd) (h : ∀ i, i < x.sub.length → (gd x.sub i).size ≤ 10) : ∀ k, k ≤ x.sub.length → (cdT x k).size ≤ 38 + 11 * k
  | 0, _ => by
    have h1 := numF_size 17 x.id
    have h2 := numF_size 17 x.yr
    show (((numT x.id ++ blank) ++ numT x.yr) ++ colon).size ≤ _
    rw [ByteArray.size_append, ByteArray.size_append, ByteArray.size_append]
    show (numF 17 x.id).size + 1 + (numF 17 x.yr).size + 1 ≤ _
    omega
  | k + 1, hk => by
    have h1 := cdT_size x h k (by omega)
    have h2 := h k (by omega)
    show ((cdT x k ++ blank) ++ gd x.sub k).size ≤ _
    rw [ByteArray.size_append, ByteArray.size_append]
    show (cdT x k).size + 1 + _ ≤ _
    omega
theorem wordB_size {s : ByteArray} (h : wordB s = true) : s.size ≤ 10 := by
  simp only [wordB, Bool.and_eq_true, inB_iff] at h
  omega
theorem isCrd_facts {x : Crd} (h : isCrd x = true) : 1 ≤ x.id ∧ x.id ≤ 999 ∧ 1500 ≤ x.yr ∧ x.yr ≤ 2100 ∧ 0 < x.sub.length ∧ x.sub.length ≤ 6 ∧ ∀ i, i < x.sub.length → (gd x.sub i).size ≤ 10 := by
  rw [isCrd_words] at h
  simp only [Bool.and_eq_true, inB_iff, decide_eq_true_eq, words6] at h
  obtain ⟨⟨⟨⟨⟨a1, a2⟩, a3, a4⟩, a5⟩, a6, a7⟩, -⟩ := h
  exact ⟨a1, a2, a3, a4, a5, a6, fun i hi => wordB_size (allTo_iff.1 a7 i hi)⟩
theorem ba_ext {a b : ByteArray} (h : a.data.toList = b.data.toList) : a = b := by
  apply ByteArray.ext
  exact Array.toList_inj.1 h
theorem ba_len (x : ByteArray) : x.data.toList.length = x.size := by rw [Array.length_toList]; rfl
theorem join_push (l : List (List UInt8)) (y sep : List UInt8) (h : l ≠ []) : Lib.join (l ++ [y]) sep = Lib.join l sep ++ sep ++ y := by
  cases l with
  | nil => exact absurd rfl h
  | cons x l => rw [List.cons_append, Lib.join_cons, Lib.join_cons]; simp [Lib.joinTail]
theorem cdT_join (x : Crd) : ∀ k, k < x.sub.length → cdT x (k + 1) = (((numT x.id ++ blank) ++ numT x.yr) ++ ⟨#[58, 32]⟩) ++ ⟨(Lib.join ((x.sub.take (k + 1)).map (·.data.toList)) [32]).toArray⟩
  | 0, h => by
    rw [take_succ_gd h]
    simp only [List.take_zero, List.nil_append, List.map_cons, List.map_nil, Lib.join_one]
    show ((((numT x.id ++ blank) ++ numT x.yr) ++ colon) ++ blank) ++ gd x.sub 0 = _
    apply ba_ext
    simp only [Go.Joins.data_append]
    simp [blank, colon]
  | k + 1, h => by
    have ih := cdT_join x k (by omega)
    rw [take_succ_gd h, List.map_append, List.map_singleton, join_push _ _ _ (by intro e; have := congrArg List.length e; simp only [List.length_map, List.length_take, List.length_nil] at this; omega)]
    show (cdT x (k + 1) ++ blank) ++ gd x.sub (k + 1) = _
    rw [ih]
    generalize Lib.join ((x.sub.take (k + 1)).map (·.data.toList)) [32] = J
    apply ba_ext
    simp only [Go.Joins.data_append]
    simp [blank]
theorem join_len (l : List ByteArray) (h : ∀ i, i < l.length → (gd l i).size ≤ 10) (h6 : l.length ≤ 6) : (Lib.join (l.map (·.data.toList)) [32]).length ≤ 66 := by
  have key : ∀ (r : List ByteArray), (∀ x, x ∈ r → x.size ≤ 10) → (Lib.joinTail [32] (r.map (·.data.toList))).length ≤ 11 * r.length := by
    intro r
    induction r with
    | nil => intro _; simp [Lib.joinTail]
    | cons x r ih =>
      intro hr
      have h1 := ih (fun y hy => hr y (by simp [hy]))
      have h2 : x.data.toList.length ≤ 10 := by rw [ba_len]; exact hr x (by simp)
      simp only [Lib.joinTail, List.map_cons, List.flatten_cons, List.length_append, List.length_cons] at h1 ⊢
      simp only [List.length_nil]
      omega
  have hm : ∀ x, x ∈ l → x.size ≤ 10 := fun x hx => by
    obtain ⟨i, hi, rfl⟩ := List.mem_iff_getElem.1 hx
    rw [← gd_get hi]
    exact h i hi
  cases l with
  | nil => simp [Lib.join_nil]
  | cons x l =>
    rw [List.map_cons, Lib.join_cons, List.length_append]
    have h1 := key l (fun y hy => hm y (by simp [hy]))
    have h2 : x.data.toList.length ≤ 10 := by rw [ba_len]; exact hm x (by simp)
    simp at h6
    omega
set_option maxHeartbeats 4000000 in
set_option maxRecDepth 100000 in
theorem cardText_c (x : Crd) (w : World) (h : x.In w) (hs : StrE.Fits x.sub) (ht : Tab w) : Calls Tryz.prog 14 #[.agg #[.int .i64 x.id, .int .i64 x.yr, .slice x.a x.sub.length x.cap]] w fun e w' => e = .returned (.tuple #[.string (cdS x), .bool (isCrd x)]) ∧ Below w.heap.size w w' := by
  have HI := Lib.hid (fun W (hB : Below w.heap.size w W) => isCard_c x W (Sl.mono h hB) hs)
  cases hA : isCrd x
  · have hS : Hid (cdS x = ⟨#[]⟩) := (show cdS x = _ by rw [cdS, hA]; rfl)
    rw [hA] at HI
    replace HI := Lib.hid HI.out
    generalize cdS x = T at hS ⊢
    clear hA h ht hs
    go_enter Tryz.func14, Tryz.ntmps14
    go_wp2_with (go_at_call 16; refine (HI.out _ (by repeat' (first | exact Below.refl _ _ | with_reducible assumption | refine bext ?_ ?_ _ | refine Below.alloc ?_ ?_ _ | refine Below.setCell ?_ ?_ _ | refine Below.drew ?_ | (simp; done) | (have hbz := hb.size; first | omega | (simp; omega)) | (simp; omega) | omega))).mono ?_; rintro e w' ⟨rfl, hbq⟩; obtain ⟨p, rfl⟩ := ext_of_below hbq; clear hbq)
    go_ret2
    exact ⟨by rw [hS.out]; rfl, (by repeat' (first | exact Below.refl _ _ | with_reducible assumption | refine bext ?_ ?_ _ | refine Below.alloc ?_ ?_ _ | refine Below.setCell ?_ ?_ _ | refine Below.drew ?_ | (simp; done) | (have hbz := hb.size; first | omega | (simp; omega)) | (simp; omega) | omega))⟩
  · obtain ⟨f1, f2, f3, f4, f5, f6, f7⟩ := isCrd_facts hA
    have hS : Hid (cdS x = (((numT x.id ++ blank) ++ numT x.yr) ++ ⟨#[58, 32]⟩) ++ ⟨(Lib.join (x.sub.map (·.data.toList)) [32]).toArray⟩) := by
      show cdS x = _
      obtain ⟨k, hk⟩ : ∃ k, x.sub.length = k + 1 := ⟨x.sub.length - 1, by omega⟩
      have := cdT_join x k (by omega)
      rw [← hk, List.take_length] at this
      rw [cdS, hA]
      exact this
    have hjl := join_len x.sub f7 f6
    have hn1 := numF_size 17 x.id
    have hn2 := numF_size 17 x.yr
    rw [hA] at HI
    replace HI := Lib.hid HI.out
    have HT1 := Lib.hid (fun W (hB : Below w.heap.size w W) => text_c x.id W (by omega) (by omega) (ht.mono hB))
    have HT2 := Lib.hid (fun W (hB : Below w.heap.size w W) => text_c x.yr W (by omega) (by omega) (ht.mono hB))
    obtain ⟨xa, xcap, b, off, hv, hlc, hm, hc⟩ := h
    injection hv with e1 e2 e3
    clear e2
    obtain ⟨hax, hbw, -⟩ := StrE.at hc 0 f5
    have HJ := Lib.hid (fun W (hB : Below w.heap.size w W) => strings_Join b off x.cap x.sub ⟨#[32]⟩ W (fun j y hy => by
      have hj := (List.getElem?_eq_some_iff.1 hy).1
      have := (StrE.at (hc.mono hB) j hj).2.2
      rw [gd_get hj, (List.getElem?_eq_some_iff.1 hy).2] at this
      exact this) (Nat.lt_of_lt_of_le hbw hB.size) (by omega) (by rw [e3]; exact hlc) (Nat.le_trans hjl (by omega)))
    have e4 : x.a = some ⟨b, off, none⟩ := e1.trans hax
    clear e1 e3 hax hc hlc hm ht hs f7
    obtain ⟨xid, xyr, xa', xcap', xs⟩ := x
    dsimp only at e4 HI HT1 HT2 HJ hS hjl hn1 hn2 f1 f2 f3 f4 f5 f6 ⊢
    subst e4
    have q1 : (numT xid).size ≤ 18 := hn1
    have q2 : (numT xyr).size ≤ 18 := hn2
    generalize numT xid = N1 at HT1 hS q1
    generalize numT xyr = N2 at HT2 hS q2
    generalize cdS _ = T at hS ⊢
    generalize Lib.join (xs.map (·.data.toList)) [32] = J at HJ hS hjl
    have z0 : N1.size + 1 ≤ 9223372036854775807 := by omega
    go_enter Tryz.func14, Tryz.ntmps14
    go_wp2_with (go_at_call 16; refine (HI.out _ (by repeat' (first | exact Below.refl _ _ | with_reducible assumption | refine bext ?_ ?_ _ | refine Below.alloc ?_ ?_ _ | refine Below.setCell ?_ ?_ _ | refine Below.drew ?_ | (simp; done) | (have hbz := hb.size; first | omega | (simp; omega)) | (simp; omega) | omega))).mono ?_; rintro e w' ⟨rfl, hbq⟩; obtain ⟨p, rfl⟩ := ext_of_below hbq; clear hbq)
    refine wp_region_ext (by kernel_rfl) (by kernel_rfl) ?_
    repeat (any_goals (first | go_big_quiet_step ((first | ((with_reducible (go_at_call 43; exact Calls.ext_of (HT1.out _ (by repeat' (first | exact Below.refl _ _ | with_reducible assumption | refine bext ?_ ?_ _ | refine Below.alloc ?_ ?_ _ | refine Below.setCell ?_ ?_ _ | refine Below.drew ?_ | (simp; done) | (have hbz := hb.size; first | omega | (simp; omega)) | (simp; omega) | omega)))))) | ((with_reducible (go_at_call 43; exact Calls.ext_of (HT2.out _ (by repeat' (first | exact Below.refl _ _ | with_reducible assumption | refine bext ?_ ?_ _ | refine Below.alloc ?_ ?_ _ | refine Below.setCell ?_ ?_ _ | refine Below.drew ?_ | (simp; done) | (have hbz := hb.size; first | omega | (simp; omega)) | (simp; omega) | omega)))))) | (go_at_call 44; exact Calls.ext_of (HJ.out _ (by repeat' (first | exact Below.refl _ _ | with_reducible assumption | refine bext ?_ ?_ _ | refine Below.alloc ?_ ?_ _ | refine Below.setCell ?_ ?_ _ | refine Below.drew ?_ | (simp; done) | (have hbz := hb.size; first | omega | (simp; omega)) | (simp; omega) | omega))))))))
    (refine wpQuiet_nil ?_)
    (rintro _ ⟨q, rfl⟩)
    go_wp2_with fail
    go_ret2
    exact ⟨by rw [hS.out]; rfl, (by repeat' (first | exact Below.refl _ _ | with_reducible assumption | refine bext ?_ ?_ _ | refine Below.alloc ?_ ?_ _ | refine Below.setCell ?_ ?_ _ | refine Below.drew ?_ | (simp; done) | (have hbz := hb.size; first | omega | (simp; omega)) | (simp; omega) | omega))⟩
set_option maxHeartbeats 4000000 in
set_option maxRecDepth 100000 in
theorem l24Text_c (x : Crd) (w : World) (h : x.In w) (hA : isCrd x = true) : Calls Tryz.prog 46 #[.agg #[.int .i64 x.id, .int .i64 x.yr, .slice x.a x.sub.length x.cap]] w fun e w' => e = .returned (.string (cdT x x.sub.length)) ∧ Below w.heap.size w w' := by
  obtain ⟨f1, f2, f3, f4, f5, f6, f7⟩ := isCrd_facts hA
  have hz := Lib.hid (cdT_size x f7)
  have hn1 := numF_size 17 x.id
  have hn2 := numF_size 17 x.yr
  have hc0 := Lib.hid (show ((numT x.id ++ blank) ++ numT x.yr) ++ colon = cdT x 0 from rfl)
  have hcs := Lib.hid (fun k => show (cdT x k ++ blank) ++ gd x.sub k = cdT x (k + 1) from rfl)
  have HN1 := Lib.hid (fun W => l1Num_c x.id W (by omega) (by omega))
  have HN2 := Lib.hid (fun W => l1Num_c x.yr W (by omega) (by omega))
  have q1 : (numT x.id).size ≤ 18 := hn1
  have q2 : (numT x.yr).size ≤ 18 := hn2
  generalize cdT x = cT at hz hc0 hcs ⊢
  obtain ⟨xid, xyr, xa, xcap, xs⟩ := x
  obtain ⟨a, cap, b, off, hv, hlc, hm, hc⟩ := h
  injection hv with e1 e2 e3
  subst e1 e3
  clear e2
  dsimp only at f1 f2 f3 f4 f5 f6 f7 hz hc0 hcs HN1 HN2 q1 q2 hlc hm hc ⊢
  unfold maxLen at hm
  replace f7 := Lib.hid f7
  generalize numT xid = N1 at HN1 hc0 q1
  generalize numT xyr = N2 at HN2 hc0 q2
  clear hA hn1 hn2
  go_enter Tryz.func46, Tryz.ntmps46
  go_wp2_with fail
  refine wp_region_ext (by kernel_rfl) (by kernel_rfl) ?_
  repeat (any_goals (first | go_big_quiet_step ((first | ((with_reducible (go_at_call 80; exact Calls.ext_of (HN1.out _)))) | ((with_reducible (go_at_call 80; exact Calls.ext_of (HN2.out _))))))))
  (refine wpQuiet_nil ?_)
  (rintro _ ⟨q, rfl⟩)
  go_wp2_with fail
  refine wpAt fun W hW => ?_
  have BW : Below w.heap.size w W := by rw [hW]; exact (by repeat' (first | exact Below.refl _ _ | with_reducible assumption | refine bext ?_ ?_ _ | refine Below.alloc ?_ ?_ _ | refine Below.setCell ?_ ?_ _ | refine Below.drew ?_ | (simp; done) | (have hbz := hb.size; first | omega | (simp; omega)) | (simp; omega) | omega))
  have BX : BoxAt W w.heap.size [.int .i64 xid, .int .i64 xyr, .slice xa xs.length xcap] := by rw [hW]; exact (BoxAt.new w _ _).mono (by repeat' (first | exact Below.refl _ _ | with_reducible assumption | refine bext ?_ ?_ _ | refine Below.alloc ?_ ?_ _ | refine Below.setCell ?_ ?_ _ | refine Below.drew ?_ | (simp; done) | (have hbz := hb.size; first | omega | (simp; omega)) | (simp; omega) | omega))
  obtain ⟨hBX, y2⟩ : w.heap.size < W.heap.size ∧ W.cell? ⟨w.heap.size, 2, none⟩ = some (.slice xa xs.length xcap) := ⟨BX.1, BX.2 2 _ rfl⟩
  have hcW := hc.mono BW
  clear hW BX hc
  have hs0 : Value.string (N1 ++ ⟨#[32]⟩ ++ N2 ++ ⟨#[58]⟩) = .string (cT 0) := by rw [← hc0.out]; rfl
  replace hs0 := Lib.hid hs0
  go_loop [3, 4] (fun s i => ∃ k : Nat, k ≤ xs.length ∧ i = .int .i64 k ∧ s = .string (cT k)) (fun _ i => xs.length - (intOf i).toNat)
  case atStart => exact ⟨0, Nat.zero_le _, rfl, hs0.out⟩
  case round =>
    obtain ⟨k, hk, rfl, rfl⟩ := hrel
    by_cases hlt : k < xs.length
    · obtain ⟨rfl, hbw, d0⟩ := StrE.at hcW k hlt
      have hun := Lib.hid (hcs.out k)
      have h1 := hz.out k hk
      have h2 := f7.out k hlt
      generalize gd xs k = s at d0 hun h2
      have h3 : (cT k).size + 1 ≤ 9223372036854775807 := by omega
      have h4 : (cT k).size + 1 + s.size ≤ 9223372036854775807 := by omega
      go_wp2_with fail
      go_round
      case rel => exact ⟨k + 1, by omega, by go_num, by rw [← hun.out]; rfl⟩
      case measure => simp [intOf]; omega
    · obtain rfl : k = xs.length := by omega
      go_wp2_with fail
      go_ret
      exact ⟨rfl, BW⟩
set_option maxHeartbeats 1000000 in
theorem specCardText_c (x : Crd) (w : World) (h : x.In w) (hs : StrE.Fits x.sub) : Calls Tryz.prog 15 #[.agg #[.int .i64 x.id, .int .i64 x.yr, .slice x.a x.sub.length x.cap]] w fun e w' => e = .returned (.tuple #[.string (cdS x), .bool (isCrd x)]) ∧ Below w.heap.size w w' := by
  have HI := Lib.hid (fun W (hB : Below w.heap.size w W) => l24One_c x W (Sl.mono h hB) hs)
  cases hA : isCrd x
  · have hS : Hid (cdS x = ⟨#[]⟩) := (show cdS x = _ by rw [cdS, hA]; rfl)
    rw [hA] at HI
    replace HI := Lib.hid HI.out
    generalize cdS x = T at hS ⊢
    clear hA h hs
    go_enter Tryz.func15, Tryz.ntmps15
    go_wp2_with (go_at_call 45; refine (HI.out _ (by repeat' (first | exact Below.refl _ _ | with_reducible assumption | refine bext ?_ ?_ _ | refine Below.alloc ?_ ?_ _ | refine Below.setCell ?_ ?_ _ | refine Below.drew ?_ | (simp; done) | (have hbz := hb.size; first | omega | (simp; omega)) | (simp; omega) | omega))).mono ?_; rintro e w' ⟨rfl, hbq⟩; obtain ⟨p, rfl⟩ := ext_of_below hbq; clear hbq)
    go_ret2
    exact ⟨by rw [hS.out]; rfl, (by repeat' (first | exact Below.refl _ _ | with_reducible assumption | refine bext ?_ ?_ _ | refine Below.alloc ?_ ?_ _ | refine Below.setCell ?_ ?_ _ | refine Below.drew ?_ | (simp; done) | (have hbz := hb.size; first | omega | (simp; omega)) | (simp; omega) | omega))⟩
  · have hS : Hid (cdS x = cdT x x.sub.length) := (show cdS x = _ by rw [cdS, hA]; rfl)
    have HT := Lib.hid (fun W (hB : Below w.heap.size w W) => l24Text_c x W (Sl.mono h hB) hA)
    rw [hA] at HI
    replace HI := Lib.hid HI.out
    generalize cdS x = T at hS ⊢
    generalize cdT x x.sub.length = T2 at hS HT
    clear hA h hs
    go_enter Tryz.func15, Tryz.ntmps15
    go_wp2_with (first | (go_at_call 45; refine (HI.out _ (by repeat' (first | exact Below.refl _ _ | with_reducible assumption | refine bext ?_ ?_ _ | refine Below.alloc ?_ ?_ _ | refine Below.setCell ?_ ?_ _ | refine Below.drew ?_ | (simp; done) | (have hbz := hb.size; first | omega | (simp; omega)) | (simp; omega) | omega))).mono ?_; rintro e w' ⟨rfl, hbq⟩; obtain ⟨p, rfl⟩ := ext_of_below hbq; clear hbq) | (go_at_call 46; refine (HT.out _ (by repeat' (first | exact Below.refl _ _ | with_reducible assumption | refine bext ?_ ?_ _ | refine Below.alloc ?_ ?_ _ | refine Below.setCell ?_ ?_ _ | refine Below.drew ?_ | (simp; done) | (have hbz := hb.size; first | omega | (simp; omega)) | (simp; omega) | omega))).mono ?_; rintro e w' ⟨rfl, hbq⟩; obtain ⟨p, rfl⟩ := ext_of_below hbq; clear hbq))
    go_ret2
    exact ⟨by rw [hS.out]; rfl, (by repeat' (first | exact Below.refl _ _ | with_reducible assumption | refine bext ?_ ?_ _ | refine Below.alloc ?_ ?_ _ | refine Below.setCell ?_ ?_ _ | refine Below.drew ?_ | (simp; done) | (have hbz := hb.size; first | omega | (simp; omega)) | (simp; omega) | omega))⟩
end Go.Proofs.YteainpflmofjaaaGreatDoor

namespace Go.Proofs.YteainpflmofjaaaGreatDoor
open Go.RowKit
/-! decimal digits read back -/
theorem decFrom_append (a b : List UInt8) : ∀ acc, Lib.decFrom acc (a ++ b) = (Lib.decFrom acc a).bind fun n => Lib.decFrom n b := by
  induction a with
  | nil => intro acc; rfl
  | cons c a ih =>
    intro acc
    simp only [List.cons_append, Lib.decFrom]
    cases Lib.digitVal c with
    | none => rfl
    | some d => exact ih _
theorem digitVal_dig (k : Nat) (h : k < 10) : Lib.digitVal (UInt8.ofNat (48 + k)) = some k := by
  have : k = 0 ∨ k = 1 ∨ k = 2 ∨ k = 3 ∨ k = 4 ∨ k = 5 ∨ k = 6 ∨ k = 7 ∨ k = 8 ∨ k = 9 := by omega
  rcases this with rfl | rfl | rfl | rfl | rfl | rfl | rfl | rfl | rfl | rfl <;> rfl
theorem decFrom_dec (u : Nat) : Lib.decFrom 0 (Lib.decDigits u) = some u := by
  induction u using Nat.strongRecOn with
  | ind u ih =>
    by_cases h : u < 10
    · rw [Lib.decDigits_one h]
      simp only [Lib.decFrom, digitVal_dig u h]
      simp
    · rw [Lib.decDigits, dif_neg h, decFrom_append, ih (u / 10) (by omega)]
      simp only [Option.bind_some, Lib.decFrom, digitVal_dig (u % 10) (by omega)]
      congr 1
      omega
theorem decDigits_ne (u : Nat) : Lib.decDigits u ≠ [] := by
  rw [Lib.decDigits]; split <;> simp
theorem decDigits_head (u : Nat) : ∀ c r, Lib.decDigits u = c :: r → 48 ≤ c.toNat ∧ c.toNat ≤ 57 := by
  induction u using Nat.strongRecOn with
  | ind u ih =>
    intro c r h
    by_cases h1 : u < 10
    · rw [Lib.decDigits_one h1] at h
      injection h with h _
      subst h
      have : u = 0 ∨ u = 1 ∨ u = 2 ∨ u = 3 ∨ u = 4 ∨ u = 5 ∨ u = 6 ∨ u = 7 ∨ u = 8 ∨ u = 9 := by omega
      rcases this with rfl | rfl | rfl | rfl | rfl | rfl | rfl | rfl | rfl | rfl <;> decide
    · rw [Lib.decDigits, dif_neg h1] at h
      cases hd : Lib.decDigits (u / 10) with
      | nil => exact absurd hd (decDigits_ne _)
      | cons c' r' =>
        rw [hd] at h
        injection h with h _
        subst h
        exact ih (u / 10) (by omega) c' r' hd
theorem decDigits_all (u : Nat) : ∀ c, c ∈ Lib.decDigits u → 48 ≤ c.toNat ∧ c.toNat ≤ 57 := by
  induction u using Nat.strongRecOn with
  | ind u ih =>
    intro c hc
    have dig : ∀ k, k < 10 → 48 ≤ (UInt8.ofNat (48 + k)).toNat ∧ (UInt8.ofNat (48 + k)).toNat ≤ 57 := fun k hk => by
      have : k = 0 ∨ k = 1 ∨ k = 2 ∨ k = 3 ∨ k = 4 ∨ k = 5 ∨ k = 6 ∨ k = 7 ∨ k = 8 ∨ k = 9 := by omega
      rcases this with rfl | rfl | rfl | rfl | rfl | rfl | rfl | rfl | rfl | rfl <;> decide
    by_cases h1 : u < 10
    · rw [Lib.decDigits_one h1, List.mem_singleton] at hc
      subst hc
      exact dig u h1
    · rw [Lib.decDigits, dif_neg h1, List.mem_append, List.mem_singleton] at hc
      rcases hc with hc | rfl
      · exact ih (u / 10) (by omega) c hc
      · exact dig (u % 10) (by omega)
theorem atoi_dec (u : Nat) (h : u < 1000000000000000000) : Lib.atoiAll (Lib.decDigits u) = .ok (u : Int) := by
  have hl : (Lib.decDigits u).length ≤ 18 := by
    rw [Lib.decDigits_length]
    rcases Nat.lt_or_ge u 10 with h1 | h1
    · rw [Lib.nDigits_small h1]; omega
    · have : ∀ (k v : Nat), v < 10 ^ (k + 1) → Lib.nDigits v ≤ k + 1 := by
        intro k
        induction k with
        | zero => intro v hv; rw [Lib.nDigits_small (by simpa using hv)]; omega
        | succ k ih =>
          intro v hv
          by_cases hv10 : v < 10
          · rw [Lib.nDigits_small hv10]; omega
          · rw [Lib.nDigits_big hv10]
            have := ih (v / 10) (by rw [Nat.div_lt_iff_lt_mul (by omega), ← Nat.pow_succ]; exact hv)
            omega
      exact this 17 u (by simpa using h)
  rw [Lib.atoiAll_short _ hl]
  cases hd : Lib.decDigits u with
  | nil => exact absurd hd (decDigits_ne _)
  | cons c r =>
    have hc := decDigits_head u c r hd
    have n45 : (c == 45) = false := by
      rw [beq_eq_false_iff_ne]; rintro rfl; exact absurd hc.1 (by decide)
    have n43 : (c == 43) = false := by
      rw [beq_eq_false_iff_ne]; rintro rfl; exact absurd hc.1 (by decide)
    have hF := decFrom_dec u
    rw [hd] at hF
    simp only [Lib.atoi, n45, n43]
    simp [Lib.decNat, hF, Lib.NumEnd.ofOption]
/-! a text cut at a byte -/
def spl (c : UInt8) : List UInt8 → List (List UInt8)
  | [] => [[]]
  | b :: l => if b = c then [] :: spl c l else match spl c l with
    | h :: t => (b :: h) :: t
    | [] => [[b]]
theorem spl_ne (c : UInt8) (l : List UInt8) : spl c l ≠ [] := by
  cases l with
  | nil => simp [spl]
  | cons b l =>
    unfold spl
    split
    · simp
    · split <;> simp
theorem spl_none (c : UInt8) : ∀ (a : List UInt8), c ∉ a → spl c a = [a]
  | [], _ => rfl
  | b :: a, h => by
    have hb : b ≠ c := fun e => h (by simp [e])
    rw [spl, if_neg hb, spl_none c a (fun e => h (by simp [e]))]
theorem spl_cut (c : UInt8) : ∀ (a l : List UInt8), c ∉ a → spl c (a ++ c :: l) = a :: spl c l
  | [], l, _ => by simp [spl]
  | b :: a, l, h => by
    have hb : b ≠ c := fun e => h (by simp [e])
    rw [List.cons_append, spl, if_neg hb, spl_cut c a l (fun e => h (by simp [e]))]
/-- every text begins with what has no c in it -/
theorem spl_cases (c : UInt8) (s : List UInt8) : c ∉ s ∨ ∃ a l, s = a ++ c :: l ∧ c ∉ a := by
  induction s with
  | nil => exact .inl (by simp)
  | cons b s ih =>
    by_cases hb : b = c
    · subst hb; exact .inr ⟨[], s, rfl, by simp⟩
    · rcases ih with h | ⟨a, l, rfl, h⟩
      · exact .inl (by simp [h, Ne.symm hb])
      · exact .inr ⟨b :: a, l, rfl, by simp [h, Ne.symm hb]⟩

theorem spl_push (c : UInt8) (b : List UInt8) (hb : c ∉ b) : ∀ A : List UInt8, spl c (A ++ c :: b) = spl c A ++ [b]
  | [] => by simp [spl, spl_none c b hb]
  | a :: A => by
    have ih := spl_push c b hb A
    by_cases ha : a = c
    · subst ha
      simp [spl, ih]
    · rw [List.cons_append, spl, if_neg ha, ih, spl, if_neg ha]
      cases hA : spl c A with
      | nil => exact absurd hA (spl_ne c A)
      | cons h t => rfl
theorem index_cut (c : UInt8) : ∀ (a l : List UInt8), c ∉ a → Lib.index (a ++ c :: l) [c] = (a.length : Int)
  | [], l, _ => by simp [Lib.index]
  | b :: a, l, h => by
    have hb : ¬ c = b := fun e => h (by simp [e])
    have ih := index_cut c a l (fun e => h (by simp [e]))
    simp [Lib.index, ih, hb]
theorem index_not (c : UInt8) : ∀ (a : List UInt8), c ∉ a → Lib.index a [c] = -1
  | [], _ => by simp [Lib.index]
  | b :: a, h => by
    have hb : ¬ c = b := fun e => h (by simp [e])
    have ih := index_not c a (fun e => h (by simp [e]))
    simp [Lib.index, ih, hb]
theorem splitK_spl (c : UInt8) : ∀ (n : Nat) (l : List UInt8), l.length ≤ n → Lib.splitK [c] 0 (Lib.count l [c]) l = spl c l
  | n, l, hn => by
    rcases spl_cases c l with h | ⟨a, r, rfl, h⟩
    · rw [Lib.count_miss (index_not c l h), spl_none c l h]; rfl
    · have hi := index_cut c a r h
      have hd : (a ++ c :: r).drop (a.length + [c].length) = r := by simp
      rw [Lib.count_hit (by simp) hi, hd, spl_cut c a r h, Nat.add_comm 1]
      show (if Lib.index (a ++ c :: r) [c] == -1 then _ else _) = _
      rw [hi, if_neg (by simp)]
      have hr : r.length < n := by simp at hn; omega
      have e1 : ((a.length : Int)).toNat = a.length := by simp
      rw [e1, hd, splitK_spl c (n - 1) r (by omega)]
      simp
  termination_by n => n
/-! the text of a card, cut at blanks -/
theorem numT_digits {n : Int} (h0 : 0 ≤ n) (h1 : n < 1000000000000000000) : (numT n).data.toList = Lib.decDigits n.toNat := by
  rw [numT_itoa n h0 h1, Lib.itoa, if_neg (by omega)]
theorem dec_no (u : Nat) (c : UInt8) (hc : c.toNat < 48 ∨ 57 < c.toNat) : c ∉ Lib.decDigits u := fun h => by
  have := decDigits_all u c h
  omega
theorem word_no {s : ByteArray} (h : wordB s = true) : (32 : UInt8) ∉ s.data.toList := fun hm => by
  simp only [wordB, Bool.and_eq_true] at h
  obtain ⟨i, hi, e⟩ := List.mem_iff_getElem.1 hm
  have hi' : i < s.size := by rw [← ba_len]; exact hi
  have := allTo_iff.1 h.2 i hi'
  have hb : gd (byteL s) i = 32 := by
    rw [gd_get (by rw [byteL_len]; exact hi')]
    simp only [byteL, List.getElem_map, e]
    rfl
  rw [hb] at this
  revert this
  decide
/-- the bytes of the parts of a card's text -/
def cdP (x : Crd) (k : Nat) : List (List UInt8) := [Lib.decDigits x.id.toNat, Lib.decDigits x.yr.toNat ++ [58]] ++ (x.sub.take k).map (·.data.toList)
theorem cdT_spl {x : Crd} (h : isCrd x = true) : ∀ k, k ≤ x.sub.length → spl 32 (cdT x k).data.toList = cdP x k
  | 0, _ => by
    obtain ⟨h1, h2, h3, h4, -⟩ := isCrd_facts h
    have e : (cdT x 0).data.toList = Lib.decDigits x.id.toNat ++ 32 :: (Lib.decDigits x.yr.toNat ++ [58]) := by
      rw [← numT_digits (n := x.id) (by omega) (by omega), ← numT_digits (n := x.yr) (by omega) (by omega)]
      simp [cdT, blank, colon]
    rw [e, spl_push 32 _ (by
      rw [List.mem_append]
      rintro (hm | hm)
      · exact dec_no _ 32 (.inl (by decide)) hm
      · simp at hm), spl_none 32 _ (dec_no _ 32 (.inl (by decide)))]
    simp [cdP]
  | k + 1, hk => by
    have ih := cdT_spl h k (by omega)
    have hw : wordB (gd x.sub k) = true := by
      have h' := h
      rw [isCrd_words] at h'
      simp only [Bool.and_eq_true, words6] at h'
      exact allTo_iff.1 h'.1.2.2 k (by omega)
    have e : (cdT x (k + 1)).data.toList = (cdT x k).data.toList ++ 32 :: (gd x.sub k).data.toList := by
      show (((cdT x k ++ blank) ++ gd x.sub k)).data.toList = _
      simp [blank]
    rw [e, spl_push 32 _ (word_no hw), ih]
    simp [cdP, take_succ_gd (show k < x.sub.length by omega)]
end Go.Proofs.YteainpflmofjaaaGreatDoor

namespace Go.Proofs.YteainpflmofjaaaGreatDoor
open Go.RowKit
/-- what a reading of s answers -/
def PQ (s : ByteArray) (ok : Bool) (x : Crd) : Prop :=
  (ok = true → isCrd x = true ∧ cdT x x.sub.length = s) ∧ (∀ X : Crd, isCrd X = true → cdT X X.sub.length = s → ok = true ∧ x.bare = X.bare) ∧ (ok = false → x = ⟨0, 0, none, 0, []⟩)
theorem PQ.same {s : ByteArray} {ok ok' : Bool} {x x' : Crd} (h : PQ s ok x) (h' : PQ s ok' x') : ok = ok' ∧ x.bare = x'.bare := by
  obtain ⟨a1, a2, a3⟩ := h
  obtain ⟨b1, b2, b3⟩ := h'
  cases hok : ok
  · cases hok' : ok'
    · exact ⟨rfl, by rw [a3 hok, b3 hok']⟩
    · obtain ⟨h1, h2⟩ := b1 hok'
      have := (a2 x' h1 h2).1
      rw [hok] at this; cases this
  · obtain ⟨h1, h2⟩ := a1 hok
    obtain ⟨h3, h4⟩ := b2 x h1 h2
    exact ⟨h3.symm, h4.symm⟩
/-- n is what t spells, where t is a number's numeral -/
def NumP (t : ByteArray) (n : Int) : Prop := ∀ k : Nat, k ≤ 999999 → t.data.toList = Lib.decDigits k → n = (k : Int)
theorem dec_len (k : Nat) : ∀ m, k < 10 ^ (m + 1) → (Lib.decDigits k).length ≤ m + 1 := fun m => by
  induction m generalizing k with
  | zero => intro h; rw [Lib.decDigits_one (by simpa using h)]; simp
  | succ m ih =>
    intro h
    by_cases h10 : k < 10
    · rw [Lib.decDigits_one h10]; simp
    · rw [Lib.decDigits, dif_neg h10, List.length_append, List.length_singleton]
      have := ih (k / 10) (by rw [Nat.div_lt_iff_lt_mul (by omega), ← Nat.pow_succ]; exact h)
      omega
theorem dec_len4 (k : Nat) (h1 : 1000 ≤ k) (h2 : k < 10000) : (Lib.decDigits k).length = 4 := by
  have e1 : Lib.decDigits k = ((Lib.decDigits (k / 10 / 10 / 10) ++ [UInt8.ofNat (48 + k / 10 / 10 % 10)]) ++ [UInt8.ofNat (48 + k / 10 % 10)]) ++ [UInt8.ofNat (48 + k % 10)] := by
    rw [Lib.decDigits, dif_neg (by omega)]
    congr 1
    rw [Lib.decDigits, dif_neg (by omega)]
    congr 1
    rw [Lib.decDigits, dif_neg (by omega)]
  rw [e1, Lib.decDigits_one (by omega)]
  simp
/-- the parts of a card's text -/
theorem card_parts {X : Crd} {s : ByteArray} {ps : List ByteArray} (h : isCrd X = true) (hs : cdT X X.sub.length = s) (hp : ps.map (·.data.toList) = spl 32 s.data.toList) :
    ps.length = X.sub.length + 2 ∧ (gd ps 0).data.toList = Lib.decDigits X.id.toNat ∧ (gd ps 1).data.toList = Lib.decDigits X.yr.toNat ++ [58] ∧ ps.drop 2 = X.sub := by
  rw [← hs, cdT_spl h _ (Nat.le_refl _), cdP, List.take_length] at hp
  match ps, hp with
  | [], hp => simp at hp
  | [a], hp => simp at hp
  | a :: b :: r, hp =>
    simp only [List.map_cons, List.cons_append, List.nil_append, List.cons.injEq] at hp
    obtain ⟨h1, h2, h3⟩ := hp
    have h4 : r = X.sub := by
      have hl : r.length = X.sub.length := by simpa using congrArg List.length h3
      apply List.ext_getElem hl
      intro i hi hi'
      have h5 := congrArg (fun q => q[i]?) h3
      simp only [List.getElem?_map, List.getElem?_eq_getElem hi, List.getElem?_eq_getElem hi', Option.map_some, Option.some.injEq] at h5
      exact ba_ext h5
    exact ⟨by simp [h4], h1, h2, h4⟩
theorem trim_colon (l : List UInt8) : Lib.trimSuffix (l ++ [58]) [58] = l := by
  have h : Lib.hasSuffix (l ++ [58]) [58] = true := by simp [Lib.hasSuffix]
  rw [Lib.trimSuffix, if_pos h]
  simp
theorem card_size {X : Crd} (h : isCrd X = true) : (cdT X X.sub.length).size ≤ 90 := by
  obtain ⟨h1, h2, h3, h4, h5, h6, h7⟩ := isCrd_facts h
  have e : ∀ k, k ≤ X.sub.length → (cdT X k).size ≤ 9 + 11 * k := by
    intro k
    induction k with
    | zero =>
      intro _
      have d1 := dec_len X.id.toNat 2 (by omega)
      have d2 := dec_len X.yr.toNat 3 (by omega)
      rw [← numT_digits (n := X.id) (by omega) (by omega), ba_len] at d1
      rw [← numT_digits (n := X.yr) (by omega) (by omega), ba_len] at d2
      show (((numT X.id ++ blank) ++ numT X.yr) ++ colon).size ≤ _
      rw [ByteArray.size_append, ByteArray.size_append, ByteArray.size_append]
      show (numT X.id).size + 1 + (numT X.yr).size + 1 ≤ _
      omega
    | succ k ih =>
      intro hk
      have g1 := ih (by omega)
      have g2 := h7 k (by omega)
      show ((cdT X k ++ blank) ++ gd X.sub k).size ≤ _
      rw [ByteArray.size_append, ByteArray.size_append]
      show (cdT X k).size + 1 + _ ≤ _
      omega
  have := e _ (Nat.le_refl _)
  omega
/-- the program's reading -/
theorem pq_few {s : ByteArray} {ps : List ByteArray} (hp : ps.map (·.data.toList) = spl 32 s.data.toList) (h : ps.length < 3) : PQ s false ⟨0, 0, none, 0, []⟩ :=
  ⟨fun e => (by cases e), fun X h1 h2 => by
    have h3 := (card_parts h1 h2 hp).1
    have h4 := (isCrd_facts h1).2.2.2.2.1
    omega, fun _ => rfl⟩
theorem pq_gen {s : ByteArray} {ps : List ByteArray} (hp : ps.map (·.data.toList) = spl 32 s.data.toList) {n y : Int} {a : Option Addr} {c : Nat} (hn : NumP (gd ps 0) n) (hy : ∀ k : Nat, 1000 ≤ k → k < 10000 → (gd ps 1).data.toList = Lib.decDigits k ++ [58] → y = (k : Int)) :
    (isCrd ⟨n, y, a, c, ps.drop 2⟩ = true → cdT ⟨n, y, a, c, ps.drop 2⟩ (ps.drop 2).length = s → PQ s true ⟨n, y, a, c, ps.drop 2⟩) ∧
    (¬ (isCrd ⟨n, y, a, c, ps.drop 2⟩ = true ∧ cdT ⟨n, y, a, c, ps.drop 2⟩ (ps.drop 2).length = s) → PQ s false ⟨0, 0, none, 0, []⟩) := by
  have key : ∀ X : Crd, isCrd X = true → cdT X X.sub.length = s → X.bare = (⟨n, y, none, 0, ps.drop 2⟩ : Crd) := fun X h1 h2 => by
    obtain ⟨e1, e2, e3, e4⟩ := card_parts h1 h2 hp
    obtain ⟨f1, f2, f3, f4, -⟩ := isCrd_facts h1
    have g1 := hn X.id.toNat (by omega) e2
    have g2 := hy X.yr.toNat (by omega) (by omega) e3
    show (⟨X.id, X.yr, none, 0, X.sub⟩ : Crd) = _
    rw [e4, g1, g2]
    congr 1 <;> omega
  refine ⟨fun h1 h2 => ⟨fun _ => ⟨h1, h2⟩, fun X g1 g2 => ⟨rfl, (key X g1 g2).symm⟩, fun e => (by cases e)⟩, fun hno => ⟨fun e => (by cases e), fun X g1 g2 => ?_, fun _ => rfl⟩⟩
  exfalso
  have hk := key X g1 g2
  apply hno
  have e1 : isCrd ⟨n, y, a, c, ps.drop 2⟩ = true := by
    have : isCrd X.bare = true := g1
    rw [hk] at this
    exact this
  refine ⟨e1, ?_⟩
  have e2 : cdT X.bare X.bare.sub.length = s := by
    show cdT ⟨X.id, X.yr, none, 0, X.sub⟩ X.sub.length = s
    rw [cdT_at X.id X.yr none X.a 0 X.cap X.sub]
    exact g2
  rw [hk] at e2
  rw [cdT_at n y a none c 0 (ps.drop 2)]
  exact e2
theorem yr_trim {t : ByteArray} {y : Int} (hy : NumP ⟨(Lib.trimSuffix t.data.toList [58]).toArray⟩ y) (k : Nat) (_ : 1000 ≤ k) (h2 : k < 10000) (e : t.data.toList = Lib.decDigits k ++ [58]) : y = (k : Int) :=
  hy k (by omega) (by
    show (Lib.trimSuffix t.data.toList [58]).toArray.toList = _
    rw [e, trim_colon])
theorem yr_four {t : ByteArray} {y : Int} (hy : NumP (t.extract 0 4) y) (k : Nat) (h1 : 1000 ≤ k) (h2 : k < 10000) (e : t.data.toList = Lib.decDigits k ++ [58]) : y = (k : Int) :=
  hy k (by omega) (by
    rw [Lib.extract_from_zero, e, List.take_append_of_le_length (by rw [dec_len4 k h1 h2]; omega), List.take_of_length_le (by rw [dec_len4 k h1 h2]; omega)])
/-- the reference's first look -/
theorem pq_look {s : ByteArray} {ps : List ByteArray} (hp : ps.map (·.data.toList) = spl 32 s.data.toList) (h : 90 < s.size ∨ ps.length < 3 ∨ 8 < ps.length ∨ (gd ps 1).size ≠ 5) : PQ s false ⟨0, 0, none, 0, []⟩ :=
  ⟨fun e => (by cases e), fun X h1 h2 => by
    obtain ⟨e1, e2, e3, e4⟩ := card_parts h1 h2 hp
    obtain ⟨f1, f2, f3, f4, f5, f6, -⟩ := isCrd_facts h1
    have g1 := card_size h1
    rw [h2] at g1
    have g2 := congrArg List.length e3
    rw [ba_len, List.length_append, dec_len4 X.yr.toNat (by omega) (by omega)] at g2
    simp at g2
    omega, fun _ => rfl⟩
end Go.Proofs.YteainpflmofjaaaGreatDoor

namespace Go.Proofs.YteainpflmofjaaaGreatDoor
open Go.RowKit
abbrev WSt (w0 w : World) (B : Nat) (v : Value) (l : List ByteArray) (m N : Nat) : Prop := LSt w0 w B 9 StrE.enc 1 v l m N
def sm12 (l : List ByteArray) : Prop := ∀ z, z ∈ l → z.size ≤ 12
theorem sm12.fits {l : List ByteArray} (h : sm12 l) : StrE.Fits l := fun i hi => by
  have := h (gd l i) (by rw [gd_get hi]; exact List.getElem_mem hi)
  show (gd l i).size ≤ maxLen
  unfold maxLen; omega
theorem sm12.push {l : List ByteArray} {s : ByteArray} (h : sm12 l) (hs : s.size ≤ 12) : sm12 (l ++ [s]) := fun z hz => by
  rcases List.mem_append.1 hz with hz | hz
  · exact h z hz
  · rw [List.mem_singleton.1 hz]; exact hs
/-- a call that hands back words and has read choices -/
def CurT (w : World) (B m : Nat) (e : Ending) (w' : World) : Prop := ∃ (v : Value) (l : List ByteArray), e = .returned v ∧ WSt w w' B v l m 7 ∧ sm12 l
set_option maxHeartbeats 8000000 in
set_option maxRecDepth 100000 in
theorem terms24_c (w : World) (B m : Nat) (h : Cur w B m) (hm : m ≤ 100000) : Calls Tryz.prog 24 #[.pointer (some ⟨B, 0, none⟩)] w (CurT w B (m + 50)) := by
  have hB := h.lt
  obtain ⟨s', hs', hy0, hy1, hy2⟩ := info_parts (show (Tryz.prog.info? 9).map (fun i => (i.zero, i.size, i.bytes)) = some (some (.string ByteArray.empty), 1, 16) by kernel_rfl)
  have S0 : Hid (WSt w (w.alloc (.cells #[] 9)) B (.slice (some ⟨w.heap.size, 0, none⟩) 0 0) [] m 0) := Lib.hid ⟨Own.empty _ _ _ _ _ (Nat.le_refl _), Nat.le_refl _, h.mono (below_alloc _ _), only_new (World.grownBy.refl _ _), hB⟩
  clear h
  go_enter Tryz.func24, Tryz.ntmps24
  go_wp2_with fail
  have S1 := Lib.hid (S0.out.alloc (.cells #[.int .i64 0, .int .i64 1, .int .i64 1, .int .i64 2, .int .i64 2, .int .i64 3, .int .i64 6, .int .i64 7] 3))
  have hL := Lib.hid (LitI.of (w := w.alloc (.cells #[] 9)) (t := 3) (cs := [.int .i64 0, .int .i64 1, .int .i64 1, .int .i64 2, .int .i64 2, .int .i64 3, .int .i64 6, .int .i64 7]) (P := fun x => 0 ≤ x ∧ x ≤ 7) (by simp))
  clear S0
  refine (pick_c _ B _ 24 S1.out.2.2.1 (by omega) (by omega)).mono ?_
  rintro e w3 ⟨p, hp, rfl, C3, g3⟩
  have hp0 := hp.1
  have hp1 := hp.2.1 (by omega)
  have S3 := Lib.hid (S1.out.turn g3 C3)
  have hgB : ¬ w.heap.size + 1 = B := by omega
  have hL3 : Hid (LitI w3 (w.heap.size + 1) 8 (fun x => 0 ≤ x ∧ x ≤ 7)) := fun i hi => by
    obtain ⟨z, hz, h1⟩ := hL.out i hi
    refine ⟨z, hz, cellGrown (by simpa using h1) g3 (fun e => hgB (Option.some.inj e))⟩
  have hq : p.tdiv 12 = p / 12 := Int.tdiv_eq_ediv_of_nonneg hp0
  obtain ⟨k, hk, hk2⟩ : ∃ k : Nat, p.tdiv 12 = (k : Int) ∧ k ≤ 1 := ⟨(p / 12).toNat, by rw [hq]; omega, by omega⟩
  clear hL g3 C3 hq hp S1
  go_wp2_with fail
  refine (among_c _ B _ (w.heap.size + 1) (7 + k) 8 (fun x => 0 ≤ x ∧ x ≤ 7) S3.out.2.2.1 (by omega) (fun i hi => hL3.out i (by omega)) (by omega) (by omega) hgB).mono ?_
  rintro e w4 ⟨n, ⟨hn0, hn7⟩, rfl, C4, g4⟩
  obtain ⟨n, rfl⟩ : ∃ k : Nat, n = (k : Int) := ⟨n.toNat, by omega⟩
  have S4 := Lib.hid (S3.out.turn g4 C4)
  clear S3 C4 g4 hL3
  go_wp2_with fail
  go_loopw [3, 4] (fun o nv wr => ∃ (q : Nat) (l : List ByteArray), q ≤ 7 ∧ nv = .int .i64 (q : Int) ∧ Hid (sm12 l) ∧ Hid (WSt w wr B o l (m + 4 + 4 * (7 - q)) (7 - q))) (fun _ nv _ => (intOf nv).toNat)
  case atStart => exact ⟨n, [], by omega, rfl, Lib.hid (fun z hz => (by cases hz)), Lib.hid (S4.out.le (by omega) (by omega))⟩
  case round =>
    obtain ⟨q, l, hq7, rfl, hl12, hS⟩ := hrel
    clear S4
    have hl := hS.out.2.1
    by_cases hlt : 0 < q
    · have hlt' : 0 < (q : Int) := by omega
      go_wp2_with fail
      refine (term24_c _ B _ hS.out.2.2.1 (by omega)).mono ?_
      rintro e w5 ⟨z, hz, rfl, C5, g5⟩
      have T1 := Lib.hid (hS.out.turn g5 C5)
      have hl12' := Lib.hid (hl12.out.push hz)
      have hz5 : w.heap.size ≤ w5.heap.size := T1.out.2.2.2.1.size
      clear hS C5 g5 hz hl12
      go_wp2_with (at_builtin; refine wpList_push StrE.len StrE.one rfl (.tmp 18) (.tmp 21) 25 rfl w.heap.size 9 s' _ 16 Tryz.underlying25 hs' hy0 hy1 hy2 rfl (by omega) _ l rfl (T1.out.1.mono (below_alloc _ _)) _ 1 z rfl (fun j u hu => new_cells _ [.string z] _ _ (by simp) j u hu) (by unfold maxLen; omega) (by omega) (by simp; omega) ?_)
      intro v' w6 ho6 hg6
      have T2 := Lib.hid ((T1.out.alloc _).push ho6 hg6)
      clear T1 ho6 hg6
      go_wp2_with fail
      go_roundw
      case rel => exact ⟨q - 1, _, by omega, by go_num, hl12', Lib.hid (T2.out.le (by omega) (by omega))⟩
      case measure => simp [intOf]; omega
    · obtain rfl : q = 0 := by omega
      go_wp2_with fail
      go_ret
      exact ⟨_, l, rfl, hS.out.le (by omega) (by omega), hl12.out⟩
def DrawKW (w : World) (e : Ending) (w' : World) : Prop := ∃ (v u : Value) (l : List Crd) (ws : List ByteArray), e = .returned (.tuple #[v, u]) ∧ KD w' v l ∧ Sl w' StrE.enc 1 u ws ∧ sm12 ws ∧ Below w.heap.size w w'
set_option maxHeartbeats 4000000 in
set_option maxRecDepth 100000 in
theorem drawCardsWith_c (v : Value) (w : World) (h : Bytes w v) : Calls Tryz.prog 5 #[v] w (DrawKW w) := by
  have C0 := Lib.hid (Bytes.cur (t := 48) h)
  obtain ⟨a, n0, cap, b, off, rfl, -, -, -⟩ := h
  go_enter Tryz.func5, Tryz.ntmps5
  go_wp2_with fail
  refine (cards_c _ _ 0 C0.out (by omega)).mono ?_
  rintro e w1 ⟨lv, l, rfl, S1⟩
  replace S1 := Lib.hid S1
  clear C0
  go_wp2_with fail
  refine (terms24_c _ _ _ S1.out.cur (by omega)).mono ?_
  rintro e w2 ⟨u, ws, rfl, hW, hws⟩
  have S2 := Lib.hid (S1.out.turn hW.2.2.2.1 hW.2.2.1)
  replace hW := Lib.hid hW
  replace hws := Lib.hid hws
  clear S1
  go_wp2_with fail
  go_ret2
  exact ⟨lv, u, l, ws, rfl, (KSt.drawn rfl S2.out (by omega)).1, hW.out.1.sl StrE.len, hws.out, (KSt.drawn rfl S2.out (by omega)).2⟩
def DrawKX (w : World) (e : Ending) (w' : World) : Prop := ∃ x : Crd, e = .returned (.agg #[.int .i64 x.id, .int .i64 x.yr, .slice x.a x.sub.length x.cap]) ∧ Own w' w.heap.size 9 StrE.enc 1 (Crd.hv x) x.sub ∧ StrE.Fits x.sub ∧ Below w.heap.size w w'
set_option maxHeartbeats 8000000 in
set_option maxRecDepth 100000 in
theorem drawIsCard_c (v : Value) (w : World) (h : Bytes w v) : Calls Tryz.prog 42 #[v] w (DrawKX w) := by
  have A0 := below_alloc w (.cells #[.int .i64 0, .int .i64 0, .slice none 0 0] 34)
  have C0 := Bytes.cur (t := 48) (h.mono A0)
  have K0 := (Blk.new w 34 [.int .i64 0, .int .i64 0, .slice none 0 0]).mono (below_alloc _ (.cells #[v, .int .i64 0, .int .u64 0] 48))
  have e0 : (w.alloc (.cells #[.int .i64 0, .int .i64 0, .slice none 0 0] 34)).heap.size = w.heap.size + 1 := by simp
  rw [e0] at C0
  have B0 := A0.trans ((below_alloc (w.alloc (.cells #[.int .i64 0, .int .i64 0, .slice none 0 0] 34)) (.cells #[v, .int .i64 0, .int .u64 0] 48)).mono (by simp))
  clear A0 e0
  replace K0 := Lib.hid K0
  replace C0 := Lib.hid C0
  replace B0 := Lib.hid B0
  obtain ⟨a, n0, cap, b, off, rfl, -, -, -⟩ := h
  go_enter Tryz.func42, Tryz.ntmps42
  go_wp2_with fail
  refine (amongL_c [.int .i64 1, .int .i64 42, .int .i64 999] (fun _ => True) C0.out (by omega) (allI rfl) (by simp) (by simp) (by simp) (by simp)).mono ?_
  rintro e w3 ⟨z, -, rfl, C3, g3⟩
  have K3 := Lib.hid (K0.out.grown g3 (by omega))
  have B3 := Lib.hid (B0.out.grown g3 (by simp; omega) (fun g e => by injection e with e; omega))
  replace C3 := Lib.hid C3
  clear C0 g3 K0 B0
  go_wp2_with fail
  refine (card_c _ _ _ z C3.out (by omega)).mono ?_
  rintro e w4 ⟨x, rfl, C4, g4, hO, hq⟩
  have K4 := K3.out.grown g4 (by omega)
  have hz3 := K3.out.lt
  have B4 := B3.out.grown g4 B3.out.size (fun g e => by injection e with e; omega)
  have hbd := hO.bounds
  clear C4 g4 C3 K3 B3
  have hwl := K4.lt
  have k0 := K4.cell 0 _ rfl
  have k1 := K4.cell 1 _ rfl
  have k2 := K4.cell 2 _ rfl
  have f0 := K4.frozen 0
  have f1 := K4.frozen 1
  have f2 := K4.frozen 2
  replace hO := Lib.hid hO
  replace B4 := Lib.hid B4
  replace hbd := Lib.hid hbd
  replace hq := Lib.hid hq
  clear K4
  go_wp2_with fail
  (try simp only [Exit.inBlock, Exit.then])
  refine bodyPost_ret (by simp [results, Tryz.results42, go_sem, k0, k1, k2]; try rfl) rfl ?_
  refine ⟨x, rfl, ?_⟩
  have G : w4.grownBy (((w4.setCell ⟨w.heap.size, 0, none⟩ (.int .i64 x.id)).setCell ⟨w.heap.size, 1, none⟩ (.int .i64 x.yr)).setCell ⟨w.heap.size, 2, none⟩ (.slice x.a x.sub.length x.cap)) (some w.heap.size) := only_set (only_set (only_set (World.grownBy.refl _ _)))
  refine ⟨(own_keep hO.out G (fun b hb2 e => ?_)).lower (by omega), hq.out.fits, B4.out.grown G B4.out.size (fun g e => by injection e with e; omega)⟩
  have h1 := (hbd.out b hb2).1
  injection e with e
  omega
set_option maxHeartbeats 8000000 in
set_option maxRecDepth 100000 in
theorem drawCardText_c (v : Value) (w : World) (h : Bytes w v) : Calls Tryz.prog 13 #[v] w (DrawKX w) := by
  have A0 := below_alloc w (.cells #[.int .i64 0, .int .i64 0, .slice none 0 0] 34)
  have H := Lib.hid (drawIsCard_c v _ (h.mono A0))
  have K0 := Lib.hid (Blk.new w 34 [.int .i64 0, .int .i64 0, .slice none 0 0])
  replace A0 := Lib.hid A0
  go_enter Tryz.func13, Tryz.ntmps13
  go_wp2_with fail
  refine H.out.mono ?_
  rintro e w4 ⟨x, rfl, h1, h2, h3⟩
  have K4 := K0.out.mono h3
  have B4 := btrans A0.out h3
  clear h3 A0 K0 H
  have hwl := K4.lt
  have k0 := K4.cell 0 _ rfl
  have k1 := K4.cell 1 _ rfl
  have k2 := K4.cell 2 _ rfl
  have f0 := K4.frozen 0
  have f1 := K4.frozen 1
  have f2 := K4.frozen 2
  replace K4 := Lib.hid K4
  replace h1 := Lib.hid h1
  replace h2 := Lib.hid h2
  replace B4 := Lib.hid B4
  go_wp2_with fail
  (try simp only [Exit.inBlock, Exit.then])
  refine bodyPost_ret (by simp [results, Tryz.results13, go_sem, k0, k1, k2]; try rfl) rfl ?_
  refine ⟨x, rfl, ?_⟩
  have G : w4.grownBy (((w4.setCell ⟨w.heap.size, 0, none⟩ (.int .i64 x.id)).setCell ⟨w.heap.size, 1, none⟩ (.int .i64 x.yr)).setCell ⟨w.heap.size, 2, none⟩ (.slice x.a x.sub.length x.cap)) (some w.heap.size) := only_set (only_set (only_set (World.grownBy.refl _ _)))
  refine ⟨(own_keep h1.out G (fun b hb2 e => by have h3 := (h1.out.bounds b hb2).1; injection e with e; simp at h3; omega)).lower (by simp), h2.out, B4.out.grown G B4.out.size (fun g e => by injection e with e; omega)⟩
theorem cdS_size (x : Crd) : (cdS x).size ≤ 90 := by
  unfold cdS
  split
  · rename_i h
    exact card_size h
  · exact Nat.zero_le _
def DrawT (w : World) (e : Ending) (w' : World) : Prop := ∃ s : ByteArray, e = .returned (.string s) ∧ s.size ≤ 91 ∧ Below w.heap.size w w'
set_option maxHeartbeats 4000000 in
set_option maxRecDepth 100000 in
theorem drawParseCard_c (v : Value) (w : World) (h : Bytes w v) : Calls Tryz.prog 19 #[v] w (DrawT w) := by
  have C0 := Lib.hid (Bytes.cur (t := 48) h)
  have A0 := below_alloc w (.cells #[v, .int .i64 0, .int .u64 0] 48)
  have H := Lib.hid (drawIsCard_c v _ (h.mono A0))
  have hBs := Lib.hid h
  obtain ⟨a, n0, cap, b, off, rfl, -, -, -⟩ := h
  replace A0 := Lib.hid A0
  go_enter Tryz.func19, Tryz.ntmps19
  go_wp2_with fail
  refine H.out.mono ?_
  rintro e w1 ⟨x, rfl, h1, h2, b1⟩
  have C1 := Lib.hid (C0.out.mono b1)
  have B1 := Lib.hid (btrans A0.out b1)
  have HT := Lib.hid (specCardText_c x w1 (h1.sl StrE.len) h2)
  clear C0 A0 H b1 h1 h2
  go_wp2_with fail
  refine HT.out.mono ?_
  rintro e w2 ⟨rfl, b2⟩
  have C2 := Lib.hid (C1.out.mono b2)
  replace B1 := Lib.hid (btrans B1.out b2)
  have hsz := cdS_size x
  clear C1 HT b2
  generalize cdS x = tx at hsz
  generalize isCrd x = okx
  go_wp2_with fail
  refine (one_c _ _ _ 3 C2.out (by omega) (by omega)).mono ?_
  rintro e w3 ⟨t3, rfl, C3, g3⟩
  replace B1 := Lib.hid (B1.out.grown g3 B1.out.size (fun g e => by injection e with e; omega))
  replace C3 := Lib.hid C3
  clear C2 g3
  cases t3
  · go_wp2_with fail
    go_ret
    exact ⟨tx, rfl, by omega, B1.out⟩
  · go_wp2_with fail
    refine (spoilt_c _ _ _ tx ⟨#[48, 32, 58, 49, 97]⟩ C3.out (by omega) (by omega) (by decide) (by decide)).mono ?_
    rintro e w4 ⟨z, hz, rfl, C4, g4⟩
    replace B1 := Lib.hid (B1.out.grown g4 B1.out.size (fun g e => by injection e with e; omega))
    clear C4 C3 g4
    go_wp2_with fail
    go_ret
    exact ⟨z, rfl, by omega, B1.out⟩
end Go.Proofs.YteainpflmofjaaaGreatDoor
