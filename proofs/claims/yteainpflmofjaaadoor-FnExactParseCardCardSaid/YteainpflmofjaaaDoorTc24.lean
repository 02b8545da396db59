/- The text of a card: by the program and by the reference. Condition: Go's table of powers of ten reads as it is laid. -/
import Derived.Test.YteainpflmofjaaaDoorItx
import Derived.Test.YteainpflmofjaaaDoorShp
import Derived.Test.YteainpflmofjaaaDoorCd24
namespace Go.Proofs.YteainpflmofjaaaDoor
open Go.RowKit
def blank : ByteArray := ⟨#[32]⟩
def colon : ByteArray := ⟨#[58]⟩
/-- the text with its first k words -/
def cdT (x : Crd) : Nat → ByteArray
  | 0 => ((numT x.id ++ blank) ++ numT x.yr) ++ colon
  | k + 1 => (cdT x k ++ blank) ++ gd x.sub k
def cdS (x : Crd) : ByteArray := if isCrd x then cdT x x.sub.length else ⟨#[]⟩
theorem cdT_at (i y : Int) (a a' : Option Addr) (c c' : Nat) (s : List ByteArray) : ∀ k, cdT ⟨i, y, a, c, s⟩ k = cdT ⟨i, y, a', c', s⟩ k
  | 0 => rfl
  | k + 1 => by
    show (cdT ⟨i, y, a, c, s⟩ k ++ blank) ++ gd s k = (cdT ⟨i, y, a', c', s⟩ k ++ blank) ++ gd s k
    rw [cdT_at i y a a' c c' s k]
theorem cdS_at (i y : Int) (a : Option Addr) (c : Nat) (s : List ByteArray) : cdS ⟨i, y, a, c, s⟩ = cdS ⟨i, y, none, 0, s⟩ := by
  show (if isCrd ⟨i, y, a, c, s⟩ then _ else _) = (if isCrd ⟨i, y, a, c, s⟩ then _ else _)
  rw [cdT_at i y a none c 0 s]
theorem cdT_size (x : Crd) (h : ∀ i, i < x.sub.length → (gd x.sub i).size ≤ 10) : ∀ k, k ≤ x.sub.length → (cdT x k).size ≤ 38 + 11 * k
  | 0, _ => by
    have h1 := numF_size 17 x.id
    have h2 := numF_size 17 x.yr
    show (((numT x.id ++ blank) ++ numT x.yr) ++ colon).size ≤ _
    rw [ByteArray.size_append, ByteArray.size_append, ByteArray.size_append]
    show (numF 17 x.id).size + 1 + (numF 17 x.yr).size + 1 ≤ _
    omega
  | k + 1, hk => by
    have h1 := cdT_size x h k (by omega)
    have h2 := h k (by omega)
    show ((cdT x k ++ blank) ++ gd x.sub k).size ≤ _
    rw [ByteArray.size_append, ByteArray.size_append]
    show (cdT x k).size + 1 + _ ≤ _
    omega
theorem wordB_size {s : ByteArray} (h : wordB s = true) : s.size ≤ 10 := by
  simp only [wordB, Bool.and_eq_true, inB_iff] at h
  omega
theorem isCrd_facts {x : Crd} (h : isCrd x = true) : 1 ≤ x.id ∧ x.id ≤ 999 ∧ 1500 ≤ x.yr ∧ x.yr ≤ 2100 ∧ 0 < x.sub.length ∧ x.sub.length ≤ 6 ∧ ∀ i, i < x.sub.length → (gd x.sub i).size ≤ 10 := by
  rw [isCrd_words] at h
  simp only [Bool.and_eq_true, inB_iff, decide_eq_true_eq, words6] at h
  obtain ⟨⟨⟨⟨⟨a1, a2⟩, a3, a4⟩, a5⟩, a6, a7⟩, -⟩ := h
  exact ⟨a1, a2, a3, a4, a5, a6, fun i hi => wordB_size (allTo_iff.1 a7 i hi)⟩
theorem ba_ext {a b : ByteArray} (h : a.data.toList = b.data.toList) : a = b := by
  apply ByteArray.ext
  exact Array.toList_inj.1 h
theorem ba_len (x : ByteArray) : x.data.toList.length = x.size := by rw [Array.length_toList]; rfl
theorem join_push (l : List (List UInt8)) (y sep : List UInt8) (h : l ≠ []) : Lib.join (l ++ [y]) sep = Lib.join l sep ++ sep ++ y := by
  cases l with
  | nil => exact absurd rfl h
  | cons x l => rw [List.cons_append, Lib.join_cons, Lib.join_cons]; simp [Lib.joinTail]
theorem cdT_join (x : Crd) : ∀ k, k < x.sub.length → cdT x (k + 1) = (((numT x.id ++ blank) ++ numT x.yr) ++ ⟨#[58, 32]⟩) ++ ⟨(Lib.join ((x.sub.take (k + 1)).map (·.data.toList)) [32]).toArray⟩
  | 0, h => by
    rw [take_succ_gd h]
    simp only [List.take_zero, List.nil_append, List.map_cons, List.map_nil, Lib.join_one]
    show ((((numT x.id ++ blank) ++ numT x.yr) ++ colon) ++ blank) ++ gd x.sub 0 = _
    apply ba_ext
    simp only [Go.Joins.data_append]
    simp [blank, colon]
  | k + 1, h => by
    have ih := cdT_join x k (by omega)
    rw [take_succ_gd h, List.map_append, List.map_singleton, join_push _ _ _ (by intro e; have := congrArg List.length e; simp only [List.length_map, List.length_take, List.length_nil] at this; omega)]
    show (cdT x (k + 1) ++ blank) ++ gd x.sub (k + 1) = _
    rw [ih]
    generalize Lib.join ((x.sub.take (k + 1)).map (·.data.toList)) [32] = J
    apply ba_ext
    simp only [Go.Joins.data_append]
    simp [blank]
theorem join_len (l : List ByteArray) (h : ∀ i, i < l.length → (gd l i).size ≤ 10) (h6 : l.length ≤ 6) : (Lib.join (l.map (·.data.toList)) [32]).length ≤ 66 := by
  have key : ∀ (r : List ByteArray), (∀ x, x ∈ r → x.size ≤ 10) → (Lib.joinTail [32] (r.map (·.data.toList))).length ≤ 11 * r.length := by
    intro r
    induction r with
    | nil => intro _; simp [Lib.joinTail]
    | cons x r ih =>
      intro hr
      have h1 := ih (fun y hy => hr y (by simp [hy]))
      have h2 : x.data.toList.length ≤ 10 := by rw [ba_len]; exact hr x (by simp)
      simp only [Lib.joinTail, List.map_cons, List.flatten_cons, List.length_append, List.length_cons] at h1 ⊢
      simp only [List.length_nil]
      omega
  have hm : ∀ x, x ∈ l → x.size ≤ 10 := fun x hx => by
    obtain ⟨i, hi, rfl⟩ := List.mem_iff_getElem.1 hx
    rw [← gd_get hi]
    exact h i hi
  cases l with
  | nil => simp [Lib.join_nil]
  | cons x l =>
    rw [List.map_cons, Lib.join_cons, List.length_append]
    have h1 := key l (fun y hy => hm y (by simp [hy]))
    have h2 : x.data.toList.length ≤ 10 := by rw [ba_len]; exact hm x (by simp)
    simp at h6
    omega
set_option maxHeartbeats 4000000 in
set_option maxRecDepth 100000 in
theorem cardText_c (x : Crd) (w : World) (h : x.In w) (hs : StrE.Fits x.sub) (ht : Tab w) : Calls Tryd.prog 44 #[.agg #[.int .i64 x.id, .int .i64 x.yr, .slice x.a x.sub.length x.cap]] w fun e w' => e = .returned (.tuple #[.string (cdS x), .bool (isCrd x)]) ∧ Below w.heap.size w w' := by
  have HI := Lib.hid (fun W (hB : Below w.heap.size w W) => isCard_c x W (Sl.mono h hB) hs)
  cases hA : isCrd x
  · have hS : Hid (cdS x = ⟨#[]⟩) := (show cdS x = _ by rw [cdS, hA]; rfl)
    rw [hA] at HI
    replace HI := Lib.hid HI.out
    generalize cdS x = T at hS ⊢
    clear hA h ht hs
    go_enter Tryd.func44, Tryd.ntmps44
    go_wp2_with (go_at_call 87; refine (HI.out _ (by repeat' (first | exact Below.refl _ _ | with_reducible assumption | refine bext ?_ ?_ _ | refine Below.alloc ?_ ?_ _ | refine Below.setCell ?_ ?_ _ | refine Below.drew ?_ | (simp; done) | (have hbz := hb.size; first | omega | (simp; omega)) | (simp; omega) | omega))).mono ?_; rintro e w' ⟨rfl, hbq⟩; obtain ⟨p, rfl⟩ := ext_of_below hbq; clear hbq)
    go_ret2
    exact ⟨by rw [hS.out]; rfl, (by repeat' (first | exact Below.refl _ _ | with_reducible assumption | refine bext ?_ ?_ _ | refine Below.alloc ?_ ?_ _ | refine Below.setCell ?_ ?_ _ | refine Below.drew ?_ | (simp; done) | (have hbz := hb.size; first | omega | (simp; omega)) | (simp; omega) | omega))⟩
  · obtain ⟨f1, f2, f3, f4, f5, f6, f7⟩ := isCrd_facts hA
    have hS : Hid (cdS x = (((numT x.id ++ blank) ++ numT x.yr) ++ ⟨#[58, 32]⟩) ++ ⟨(Lib.join (x.sub.map (·.data.toList)) [32]).toArray⟩) := by
      show cdS x = _
      obtain ⟨k, hk⟩ : ∃ k, x.sub.length = k + 1 := ⟨x.sub.length - 1, by omega⟩
      have := cdT_join x k (by omega)
      rw [← hk, List.take_length] at this
      rw [cdS, hA]
      exact this
    have hjl := join_len x.sub f7 f6
    have hn1 := numF_size 17 x.id
    have hn2 := numF_size 17 x.yr
    rw [hA] at HI
    replace HI := Lib.hid HI.out
    have HT1 := Lib.hid (fun W (hB : Below w.heap.size w W) => text_c x.id W (by omega) (by omega) (ht.mono hB))
    have HT2 := Lib.hid (fun W (hB : Below w.heap.size w W) => text_c x.yr W (by omega) (by omega) (ht.mono hB))
    obtain ⟨xa, xcap, b, off, hv, hlc, hm, hc⟩ := h
    injection hv with e1 e2 e3
    clear e2
    obtain ⟨hax, hbw, -⟩ := StrE.at hc 0 f5
    have HJ := Lib.hid (fun W (hB : Below w.heap.size w W) => strings_Join b off x.cap x.sub ⟨#[32]⟩ W (fun j y hy => by
      have hj := (List.getElem?_eq_some_iff.1 hy).1
      have := (StrE.at (hc.mono hB) j hj).2.2
      rw [gd_get hj, (List.getElem?_eq_some_iff.1 hy).2] at this
      exact this) (Nat.lt_of_lt_of_le hbw hB.size) (by omega) (by rw [e3]; exact hlc) (Nat.le_trans hjl (by omega)))
    have e4 : x.a = some ⟨b, off, none⟩ := e1.trans hax
    clear e1 e3 hax hc hlc hm ht hs f7
    obtain ⟨xid, xyr, xa', xcap', xs⟩ := x
    dsimp only at e4 HI HT1 HT2 HJ hS hjl hn1 hn2 f1 f2 f3 f4 f5 f6 ⊢
    subst e4
    have q1 : (numT xid).size ≤ 18 := hn1
    have q2 : (numT xyr).size ≤ 18 := hn2
    generalize numT xid = N1 at HT1 hS q1
    generalize numT xyr = N2 at HT2 hS q2
    generalize cdS _ = T at hS ⊢
    generalize Lib.join (xs.map (·.data.toList)) [32] = J at HJ hS hjl
    have z0 : N1.size + 1 ≤ 9223372036854775807 := by omega
    go_enter Tryd.func44, Tryd.ntmps44
    go_wp2_with (go_at_call 87; refine (HI.out _ (by repeat' (first | exact Below.refl _ _ | with_reducible assumption | refine bext ?_ ?_ _ | refine Below.alloc ?_ ?_ _ | refine Below.setCell ?_ ?_ _ | refine Below.drew ?_ | (simp; done) | (have hbz := hb.size; first | omega | (simp; omega)) | (simp; omega) | omega))).mono ?_; rintro e w' ⟨rfl, hbq⟩; obtain ⟨p, rfl⟩ := ext_of_below hbq; clear hbq)
    refine wp_region_ext (by kernel_rfl) (by kernel_rfl) ?_
    repeat (any_goals (first | go_big_quiet_step ((first | ((with_reducible (go_at_call 73; exact Calls.ext_of (HT1.out _ (by repeat' (first | exact Below.refl _ _ | with_reducible assumption | refine bext ?_ ?_ _ | refine Below.alloc ?_ ?_ _ | refine Below.setCell ?_ ?_ _ | refine Below.drew ?_ | (simp; done) | (have hbz := hb.size; first | omega | (simp; omega)) | (simp; omega) | omega)))))) | ((with_reducible (go_at_call 73; exact Calls.ext_of (HT2.out _ (by repeat' (first | exact Below.refl _ _ | with_reducible assumption | refine bext ?_ ?_ _ | refine Below.alloc ?_ ?_ _ | refine Below.setCell ?_ ?_ _ | refine Below.drew ?_ | (simp; done) | (have hbz := hb.size; first | omega | (simp; omega)) | (simp; omega) | omega)))))) | (go_at_call 88; exact Calls.ext_of (HJ.out _ (by repeat' (first | exact Below.refl _ _ | with_reducible assumption | refine bext ?_ ?_ _ | refine Below.alloc ?_ ?_ _ | refine Below.setCell ?_ ?_ _ | refine Below.drew ?_ | (simp; done) | (have hbz := hb.size; first | omega | (simp; omega)) | (simp; omega) | omega))))))))
    (refine wpQuiet_nil ?_)
    (rintro _ ⟨q, rfl⟩)
    go_wp2_with fail
    go_ret2
    exact ⟨by rw [hS.out]; rfl, (by repeat' (first | exact Below.refl _ _ | with_reducible assumption | refine bext ?_ ?_ _ | refine Below.alloc ?_ ?_ _ | refine Below.setCell ?_ ?_ _ | refine Below.drew ?_ | (simp; done) | (have hbz := hb.size; first | omega | (simp; omega)) | (simp; omega) | omega))⟩
set_option maxHeartbeats 4000000 in
set_option maxRecDepth 100000 in
theorem l24Text_c (x : Crd) (w : World) (h : x.In w) (hA : isCrd x = true) : Calls Tryd.prog 39 #[.agg #[.int .i64 x.id, .int .i64 x.yr, .slice x.a x.sub.length x.cap]] w fun e w' => e = .returned (.string (cdT x x.sub.length)) ∧ Below w.heap.size w w' := by
  obtain ⟨f1, f2, f3, f4, f5, f6, f7⟩ := isCrd_facts hA
  have hz := Lib.hid (cdT_size x f7)
  have hn1 := numF_size 17 x.id
  have hn2 := numF_size 17 x.yr
  have hc0 := Lib.hid (show ((numT x.id ++ blank) ++ numT x.yr) ++ colon = cdT x 0 from rfl)
  have hcs := Lib.hid (fun k => show (cdT x k ++ blank) ++ gd x.sub k = cdT x (k + 1) from rfl)
  have HN1 := Lib.hid (fun W => l1Num_c x.id W (by omega) (by omega))
  have HN2 := Lib.hid (fun W => l1Num_c x.yr W (by omega) (by omega))
  have q1 : (numT x.id).size ≤ 18 := hn1
  have q2 : (numT x.yr).size ≤ 18 := hn2
  generalize cdT x = cT at hz hc0 hcs ⊢
  obtain ⟨xid, xyr, xa, xcap, xs⟩ := x
  obtain ⟨a, cap, b, off, hv, hlc, hm, hc⟩ := h
  injection hv with e1 e2 e3
  subst e1 e3
  clear e2
  dsimp only at f1 f2 f3 f4 f5 f6 f7 hz hc0 hcs HN1 HN2 q1 q2 hlc hm hc ⊢
  unfold maxLen at hm
  replace f7 := Lib.hid f7
  generalize numT xid = N1 at HN1 hc0 q1
  generalize numT xyr = N2 at HN2 hc0 q2
  clear hA hn1 hn2
  go_enter Tryd.func39, Tryd.ntmps39
  go_wp2_with fail
  refine wp_region_ext (by kernel_rfl) (by kernel_rfl) ?_
  repeat (any_goals (first | go_big_quiet_step ((first | ((with_reducible (go_at_call 75; exact Calls.ext_of (HN1.out _)))) | ((with_reducible (go_at_call 75; exact Calls.ext_of (HN2.out _))))))))
  (refine wpQuiet_nil ?_)
  (rintro _ ⟨q, rfl⟩)
  go_wp2_with fail
  refine wpAt fun W hW => ?_
  have BW : Below w.heap.size w W := by rw [hW]; exact (by repeat' (first | exact Below.refl _ _ | with_reducible assumption | refine bext ?_ ?_ _ | refine Below.alloc ?_ ?_ _ | refine Below.setCell ?_ ?_ _ | refine Below.drew ?_ | (simp; done) | (have hbz := hb.size; first | omega | (simp; omega)) | (simp; omega) | omega))
  have BX : BoxAt W w.heap.size [.int .i64 xid, .int .i64 xyr, .slice xa xs.length xcap] := by rw [hW]; exact (BoxAt.new w _ _).mono (by repeat' (first | exact Below.refl _ _ | with_reducible assumption | refine bext ?_ ?_ _ | refine Below.alloc ?_ ?_ _ | refine Below.setCell ?_ ?_ _ | refine Below.drew ?_ | (simp; done) | (have hbz := hb.size; first | omega | (simp; omega)) | (simp; omega) | omega))
  obtain ⟨hBX, y2⟩ : w.heap.size < W.heap.size ∧ W.cell? ⟨w.heap.size, 2, none⟩ = some (.slice xa xs.length xcap) := ⟨BX.1, BX.2 2 _ rfl⟩
  have hcW := hc.mono BW
  clear hW BX hc
  have hs0 : Value.string (N1 ++ ⟨#[32]⟩ ++ N2 ++ ⟨#[58]⟩) = .string (cT 0) := by rw [← hc0.out]; rfl
  replace hs0 := Lib.hid hs0
  go_loop [3, 4] (fun s i => ∃ k : Nat, k ≤ xs.length ∧ i = .int .i64 k ∧ s = .string (cT k)) (fun _ i => xs.length - (intOf i).toNat)
  case atStart => exact ⟨0, Nat.zero_le _, rfl, hs0.out⟩
  case round =>
    obtain ⟨k, hk, rfl, rfl⟩ := hrel
    by_cases hlt : k < xs.length
    · obtain ⟨rfl, hbw, d0⟩ := StrE.at hcW k hlt
      have hun := Lib.hid (hcs.out k)
      have h1 := hz.out k hk
      have h2 := f7.out k hlt
      generalize gd xs k = s at d0 hun h2
      have h3 : (cT k).size + 1 ≤ 9223372036854775807 := by omega
      have h4 : (cT k).size + 1 + s.size ≤ 9223372036854775807 := by omega
      go_wp2_with fail
      go_round
      case rel => exact ⟨k + 1, by omega, by go_num, by rw [← hun.out]; rfl⟩
      case measure => simp [intOf]; omega
    · obtain rfl : k = xs.length := by omega
      go_wp2_with fail
      go_ret
      exact ⟨rfl, BW⟩
end Go.Proofs.YteainpflmofjaaaDoor
