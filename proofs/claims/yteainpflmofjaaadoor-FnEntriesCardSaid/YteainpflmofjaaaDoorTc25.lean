/- The text of an entry: by the program and by the reference. Condition: Go's table of powers of ten reads as it is laid. -/
import Derived.Test.YteainpflmofjaaaDoorItx
import Derived.Test.YteainpflmofjaaaDoorEn25
import Derived.Deep.CutRange
namespace Go.Proofs.YteainpflmofjaaaDoor
open Go.RowKit
def enA (x : Ent) : ByteArray := (numT x.id ++ ⟨#[32]⟩) ++ x.ti
def enB (x : Ent) : ByteArray := if x.pl.toList = [] then enA x else (enA x ++ ⟨#[44, 32]⟩) ++ x.pl
def enC (x : Ent) : ByteArray := if x.yr = 0 then enB x else (enB x ++ ⟨#[44, 32]⟩) ++ numT x.yr
def enH (x : Ent) : ByteArray := ((enC x ++ ⟨#[44, 32]⟩) ++ numT x.ct) ++ ⟨#[120]⟩
/-- the text with what the first k entries seen add -/
def enT (H : ByteArray) (l : List Int) : Nat → ByteArray
  | 0 => H
  | k + 1 => ((if k = 0 then H ++ ⟨#[32]⟩ else enT H l k) ++ ⟨#[60]⟩) ++ numT (gd l k)
def enS (x : Ent) : ByteArray := if isEnt x then enT (enH x) x.sub x.sub.length else ⟨#[]⟩
theorem enS_at (i : Int) (t p : ByteArray) (y c : Int) (a : Option Addr) (cap : Nat) (s : List Int) : enS ⟨i, t, p, y, c, a, cap, s⟩ = enS ⟨i, t, p, y, c, none, 0, s⟩ := rfl
theorem wordB_size {s : ByteArray} (h : wordB s = true) : s.size ≤ 10 := by
  simp only [wordB, Bool.and_eq_true, inB_iff] at h
  omega
theorem isEnt_facts {x : Ent} (h : isEnt x = true) : 1 ≤ x.id ∧ x.id ≤ 999 ∧ 0 ≤ x.yr ∧ x.yr ≤ 2100 ∧ 0 ≤ x.ct ∧ x.ct ≤ 99 ∧ x.sub.length ≤ 8 ∧ x.ti.size ≤ 10 ∧ x.pl.size ≤ 10 ∧ ∀ i, i < x.sub.length → 1 ≤ gd x.sub i ∧ gd x.sub i ≤ 999 := by
  rw [isEnt_spec] at h
  simp only [entTail, Bool.and_eq_true, Bool.or_eq_true, decide_eq_true_eq, beq_iff_eq, inB_iff] at h
  obtain ⟨⟨⟨⟨⟨⟨a1, a2⟩, a3⟩, a4⟩, a5⟩, a6, a7⟩, ⟨a8, a9⟩, -⟩ := h
  refine ⟨a1, a2, by omega, by omega, a6, a7, a8, wordB_size a3, ?_, fun i hi => ?_⟩
  · rcases a4 with a4 | a4
    · have := emptyB_iff.1 a4
      have e : x.pl.size = x.pl.toList.length := by rw [ByteArray.toList_eq, Array.length_toList]; rfl
      rw [e, this]; simp
    · exact wordB_size a4
  · have := allTo_iff.1 a9 i hi
    simp only [Bool.and_eq_true, inB_iff] at this
    exact this.1
theorem enT_size (H : ByteArray) (l : List Int) (hH : H.size ≤ 200) : ∀ k, (enT H l k).size ≤ 201 + 19 * k
  | 0 => by show H.size ≤ _; omega
  | k + 1 => by
    have h1 := enT_size H l hH k
    have h2 : (numT (gd l k)).size ≤ 18 := numF_size 17 _
    have h3 : (if k = 0 then H ++ ⟨#[32]⟩ else enT H l k).size ≤ 201 + 19 * k := by
      split
      · rw [ByteArray.size_append]
        show H.size + 1 ≤ _
        omega
      · exact h1
    show ((_ ++ ⟨#[60]⟩) ++ numT (gd l k)).size ≤ _
    rw [ByteArray.size_append, ByteArray.size_append]
    show _ + 1 + _ ≤ _
    omega
theorem enH_size {x : Ent} (h1 : x.ti.size ≤ 10) (h2 : x.pl.size ≤ 10) : (enA x).size ≤ 29 ∧ (enB x).size ≤ 41 ∧ (enC x).size ≤ 61 ∧ (enH x).size ≤ 200 := by
  have q1 : (numT x.id).size ≤ 18 := numF_size 17 x.id
  have q2 : (numT x.yr).size ≤ 18 := numF_size 17 x.yr
  have q3 : (numT x.ct).size ≤ 18 := numF_size 17 x.ct
  have e1 : (⟨#[32]⟩ : ByteArray).size = 1 := rfl
  have e2 : (⟨#[44, 32]⟩ : ByteArray).size = 2 := rfl
  have e3 : (⟨#[120]⟩ : ByteArray).size = 1 := rfl
  have hA : (enA x).size ≤ 29 := by
    rw [enA, ByteArray.size_append, ByteArray.size_append, e1]; omega
  have hB : (enB x).size ≤ 41 := by
    unfold enB
    split
    · omega
    · rw [ByteArray.size_append, ByteArray.size_append, e2]; omega
  have hC : (enC x).size ≤ 61 := by
    unfold enC
    split
    · omega
    · rw [ByteArray.size_append, ByteArray.size_append, e2]; omega
  refine ⟨hA, hB, hC, ?_⟩
  rw [enH, ByteArray.size_append, ByteArray.size_append, ByteArray.size_append, e2, e3]; omega
set_option maxHeartbeats 8000000 in
set_option maxRecDepth 100000 in
theorem specEntryText_c (x : Ent) (w : World) (h : x.In w) (hf : x.Fits) : Calls Tryd.prog 33 #[.agg #[.int .i64 x.id, .string x.ti, .string x.pl, .int .i64 x.yr, .int .i64 x.ct, .slice x.a x.sub.length x.cap]] w fun e w' => e = .returned (.tuple #[.string (enS x), .bool (isEnt x)]) ∧ Below w.heap.size w w' := by
  have HI := Lib.hid (fun W (hB : Below w.heap.size w W) => l25One_c x W (Sl.mono h hB) hf)
  cases hA : isEnt x
  · have hS : Hid (enS x = ⟨#[]⟩) := (show enS x = _ by rw [enS, hA]; rfl)
    rw [hA] at HI
    replace HI := Lib.hid HI.out
    generalize enS x = T at hS ⊢
    clear hA h hf
    go_enter Tryd.func33, Tryd.ntmps33
    go_wp2_with (go_at_call 74; refine (HI.out _ (by repeat' (first | exact Below.refl _ _ | with_reducible assumption | refine bext ?_ ?_ _ | refine Below.alloc ?_ ?_ _ | refine Below.setCell ?_ ?_ _ | refine Below.drew ?_ | (simp; done) | (have hbz := hb.size; first | omega | (simp; omega)) | (simp; omega) | omega))).mono ?_; rintro e w' ⟨rfl, hbq⟩; obtain ⟨p, rfl⟩ := ext_of_below hbq; clear hbq)
    go_ret2
    exact ⟨by rw [hS.out]; rfl, (by repeat' (first | exact Below.refl _ _ | with_reducible assumption | refine bext ?_ ?_ _ | refine Below.alloc ?_ ?_ _ | refine Below.setCell ?_ ?_ _ | refine Below.drew ?_ | (simp; done) | (have hbz := hb.size; first | omega | (simp; omega)) | (simp; omega) | omega))⟩
  · obtain ⟨f1, f2, f3, f4, f5, f6, f7, f8, f9, f10⟩ := isEnt_facts hA
    have hS : Hid (enS x = enT (enH x) x.sub x.sub.length) := (show enS x = _ by rw [enS, hA]; rfl)
    rw [hA] at HI
    replace HI := Lib.hid HI.out
    have q1 : (numT x.id).size ≤ 18 := numF_size 17 x.id
    have q2 : (numT x.yr).size ≤ 18 := numF_size 17 x.yr
    have q3 : (numT x.ct).size ≤ 18 := numF_size 17 x.ct
    have H1 := Lib.hid (fun W (_ : Below w.heap.size w W) => l1Num_c x.id W (by omega) (by omega))
    have H2 := Lib.hid (fun W (_ : Below w.heap.size w W) => l1Num_c x.yr W (by omega) (by omega))
    have H3 := Lib.hid (fun W (_ : Below w.heap.size w W) => l1Num_c x.ct W (by omega) (by omega))
    have H4 := Lib.hid (fun j (hj : j < x.sub.length) W (_ : Below w.heap.size w W) => l1Num_c (gd x.sub j) W (by have := f10 j hj; omega) (by have := f10 j hj; omega))
    obtain ⟨qA, qB, qC, hHz⟩ := enH_size f8 f9
    have hU := Lib.hid (enT_size (enH x) x.sub hHz)
    have hcs := Lib.hid (fun k => show ((if k = 0 then enT (enH x) x.sub 0 ++ ⟨#[32]⟩ else enT (enH x) x.sub k) ++ ⟨#[60]⟩) ++ numT (gd x.sub k) = enT (enH x) x.sub (k + 1) from rfl)
    have hH : Hid (((enC x ++ ⟨#[44, 32]⟩) ++ numT x.ct) ++ ⟨#[120]⟩ = enT (enH x) x.sub 0) := (show enH x = enT (enH x) x.sub 0 from rfl)
    have sA : Hid ((numT x.id ++ ⟨#[32]⟩) ++ x.ti = enA x) := (show enA x = enA x from rfl)
    have sB : Hid ((if x.pl.toList = [] then enA x else (enA x ++ ⟨#[44, 32]⟩) ++ x.pl) = enB x) := (show enB x = enB x from rfl)
    have sC : Hid ((if x.yr = 0 then enB x else (enB x ++ ⟨#[44, 32]⟩) ++ numT x.yr) = enC x) := (show enC x = enC x from rfl)
    have hq := Lib.hid (show ∀ k, (numT (gd x.sub k)).size ≤ 18 from fun k => numF_size 17 _)
    generalize enT (enH x) x.sub = cT at hS hU hcs hH
    generalize enC x = C at sC hH qC
    generalize enB x = B at sB sC qB
    generalize enA x = A at sA sB qA
    clear hA hf f10 hHz
    generalize enS x = T at hS ⊢
    obtain ⟨xid, xti, xpl, xyr, xct, xa, xcap, l⟩ := x
    obtain ⟨a, cap, b, off, hv, hlc, hm, hc⟩ := h
    injection hv with e1 e2 e3
    subst e1 e3
    clear e2
    unfold maxLen at hm
    dsimp only at hlc hm hc f1 f2 f3 f4 f5 f6 f7 f8 f9 q1 q2 q3 H1 H2 H3 H4 HI hS hU hcs hH hq sA sB sC ⊢
    generalize numT xid = N1 at H1 sA q1
    generalize numT xyr = N2 at H2 sC q2
    generalize numT xct = N3 at H3 hH q3
    have BX0 := Lib.hid (BoxAt.new w [.int .i64 xid, .string xti, .string xpl, .int .i64 xyr, .int .i64 xct, .slice xa l.length xcap] 51)
    go_enter Tryd.func33, Tryd.ntmps33
    go_upto_region 3 with (go_at_call 74; refine (HI.out _ (by repeat' (first | exact Below.refl _ _ | with_reducible assumption | refine bext ?_ ?_ _ | refine Below.alloc ?_ ?_ _ | refine Below.setCell ?_ ?_ _ | refine Below.drew ?_ | (simp; done) | (have hbz := hb.size; first | omega | (simp; omega)) | (simp; omega) | omega))).mono ?_; rintro e w' ⟨rfl, hbq⟩; obtain ⟨p, rfl⟩ := ext_of_below hbq; clear hbq)
    go_cut [4] from 6 (fun s W => s = .string A ∧ Hid (BoxAt W w.heap.size [.int .i64 xid, .string xti, .string xpl, .int .i64 xyr, .int .i64 xct, .slice xa l.length xcap]) ∧ Below w.heap.size w W)
    case first =>
      have z1 : N1.size + 1 ≤ 9223372036854775807 := by omega
      have z2 : N1.size + 1 + xti.size ≤ 9223372036854775807 := by omega
      refine wp_region_ext (by kernel_rfl) (by kernel_rfl) ?_
      repeat (any_goals (first | go_big_quiet_step ((go_at_call 75; exact Calls.ext_of (H1.out _ (by repeat' (first | exact Below.refl _ _ | with_reducible assumption | refine bext ?_ ?_ _ | refine Below.alloc ?_ ?_ _ | refine Below.setCell ?_ ?_ _ | refine Below.drew ?_ | (simp; done) | (have hbz := hb.size; first | omega | (simp; omega)) | (simp; omega) | omega)))))))
      (refine wpQuiet_nil ?_)
      (rintro _ ⟨q, rfl⟩)
      go_wp2_with fail
      go_meet
      case rel => exact ⟨by rw [← sA.out] <;> first | rfl | (simp only [ByteArray.append_assoc]; done) | (simp only [ByteArray.append_assoc]; rfl), BX0.out.mono (by repeat' (first | exact Below.refl _ _ | with_reducible assumption | refine bext ?_ ?_ _ | refine Below.alloc ?_ ?_ _ | refine Below.setCell ?_ ?_ _ | refine Below.drew ?_ | (simp; done) | (have hbz := hb.size; first | omega | (simp; omega)) | (simp; omega) | omega)), (by repeat' (first | exact Below.refl _ _ | with_reducible assumption | refine bext ?_ ?_ _ | refine Below.alloc ?_ ?_ _ | refine Below.setCell ?_ ?_ _ | refine Below.drew ?_ | (simp; done) | (have hbz := hb.size; first | omega | (simp; omega)) | (simp; omega) | omega))⟩
    case rest =>
      obtain ⟨rfl, hBX, hBW⟩ := hcut
      obtain ⟨hB2, y2⟩ : w.heap.size < wc.heap.size ∧ wc.cell? ⟨w.heap.size, 2, none⟩ = some (.string xpl) := ⟨hBX.out.1, hBX.out.2 2 _ rfl⟩
      go_upto_if 18 with fail
      go_cut [4] from 6 (fun s W => s = .string B ∧ Hid (BoxAt W w.heap.size [.int .i64 xid, .string xti, .string xpl, .int .i64 xyr, .int .i64 xct, .slice xa l.length xcap]) ∧ Below w.heap.size w W)
      case first =>
        have z1 : A.size + 2 ≤ 9223372036854775807 := by omega
        have z2 : A.size + 2 + xpl.size ≤ 9223372036854775807 := by omega
        have z3 : 2 + xpl.size ≤ 9223372036854775807 := by omega
        have z4 : A.size + (2 + xpl.size) ≤ 9223372036854775807 := by omega
        by_cases hE : xpl.toList = []
        · have hE' : xpl.toList.isEmpty = true := by rw [hE]; rfl
          have sB2 := sB.out
          rw [if_pos hE] at sB2
          replace sB2 := Lib.hid sB2
          go_wp2_with fail
          all_goals first | (exfalso; rename_i hh; rw [hE'] at hh; exact absurd hh (by decide)) | (go_meet; case rel => exact ⟨by rw [← sB2.out], hBX, hBW⟩)
        · have hE' : xpl.toList.isEmpty = false := by simpa using hE
          have sB2 := sB.out
          rw [if_neg hE] at sB2
          replace sB2 := Lib.hid sB2
          go_wp2_with fail
          all_goals first | (exfalso; rename_i hh; rw [hE'] at hh; exact absurd hh (by decide)) | (go_meet; case rel => exact ⟨by rw [← sB2.out] <;> (first | rfl | (simp only [ByteArray.append_assoc]; done) | (simp only [ByteArray.append_assoc]; rfl)), hBX, hBW⟩)
      case rest =>
        clear y2 hB2
        obtain ⟨rfl, hBX, hBW⟩ := hcut
        obtain ⟨hB2, y3⟩ : w.heap.size < wc.heap.size ∧ wc.cell? ⟨w.heap.size, 3, none⟩ = some (.int .i64 xyr) := ⟨hBX.out.1, hBX.out.2 3 _ rfl⟩
        go_upto_if 26 with fail
        go_cut [4] from 6 (fun s W => s = .string C ∧ Hid (BoxAt W w.heap.size [.int .i64 xid, .string xti, .string xpl, .int .i64 xyr, .int .i64 xct, .slice xa l.length xcap]) ∧ Below w.heap.size w W)
        case first =>
          have z1 : B.size + 2 ≤ 9223372036854775807 := by omega
          have z2 : B.size + 2 + N2.size ≤ 9223372036854775807 := by omega
          have z3 : 2 + N2.size ≤ 9223372036854775807 := by omega
          have z4 : B.size + (2 + N2.size) ≤ 9223372036854775807 := by omega
          by_cases hY : xyr = 0
          · have sC2 := sC.out
            rw [if_pos hY] at sC2
            replace sC2 := Lib.hid sC2
            go_wp2_with fail
            go_meet
            case rel => exact ⟨by rw [← sC2.out], hBX, hBW⟩
          · have sC2 := sC.out
            rw [if_neg hY] at sC2
            replace sC2 := Lib.hid sC2
            go_wp2_with (go_at_call 75; refine (H2.out _ (by repeat' (first | exact Below.refl _ _ | with_reducible assumption | refine bext ?_ ?_ _ | refine Below.alloc ?_ ?_ _ | refine Below.setCell ?_ ?_ _ | refine Below.drew ?_ | (simp; done) | (have hbz := hb.size; first | omega | (simp; omega)) | (simp; omega) | omega))).mono ?_; rintro e w' ⟨rfl, hbq⟩; obtain ⟨p, rfl⟩ := ext_of_below hbq; clear hbq)
            go_meet
            case rel => exact ⟨by rw [← sC2.out] <;> first | rfl | (simp only [ByteArray.append_assoc]; done) | (simp only [ByteArray.append_assoc]; rfl), hBX.out.mono (by repeat' (first | exact Below.refl _ _ | with_reducible assumption | refine bext ?_ ?_ _ | refine Below.alloc ?_ ?_ _ | refine Below.setCell ?_ ?_ _ | refine Below.drew ?_ | (simp; done) | (have hbz := hb.size; first | omega | (simp; omega)) | (simp; omega) | omega)), (by repeat' (first | exact Below.refl _ _ | with_reducible assumption | refine bext ?_ ?_ _ | refine Below.alloc ?_ ?_ _ | refine Below.setCell ?_ ?_ _ | refine Below.drew ?_ | (simp; done) | (have hbz := hb.size; first | omega | (simp; omega)) | (simp; omega) | omega))⟩
        case rest =>
          clear y3 hB2
          obtain ⟨rfl, hBX, hBW⟩ := hcut
          obtain ⟨hB2, y4, y5⟩ : w.heap.size < wc.heap.size ∧ wc.cell? ⟨w.heap.size, 4, none⟩ = some (.int .i64 xct) ∧ wc.cell? ⟨w.heap.size, 5, none⟩ = some (.slice xa l.length xcap) := ⟨hBX.out.1, hBX.out.2 4 _ rfl, hBX.out.2 5 _ rfl⟩
          have z1 : C.size + 2 ≤ 9223372036854775807 := by omega
          have z2 : C.size + 2 + N3.size ≤ 9223372036854775807 := by omega
          have z3 : C.size + 2 + N3.size + 1 ≤ 9223372036854775807 := by omega
          have z4 : 2 + N3.size ≤ 9223372036854775807 := by omega
          have z5 : 2 + N3.size + 1 ≤ 9223372036854775807 := by omega
          have z6 : C.size + (2 + N3.size + 1) ≤ 9223372036854775807 := by omega
          go_wp2_with (go_at_call 75; refine (H3.out _ (by repeat' (first | exact Below.refl _ _ | with_reducible assumption | refine bext ?_ ?_ _ | refine Below.alloc ?_ ?_ _ | refine Below.setCell ?_ ?_ _ | refine Below.drew ?_ | (simp; done) | (have hbz := hb.size; first | omega | (simp; omega)) | (simp; omega) | omega))).mono ?_; rintro e w' ⟨rfl, hbq⟩; obtain ⟨p, rfl⟩ := ext_of_below hbq; clear hbq)
          clear z1 z2 z3 z4 z5 z6
          go_loopw [4, 5] (fun s i wr => ∃ k : Nat, k ≤ l.length ∧ i = .int .i64 k ∧ s = .string (cT k) ∧ Hid (BoxAt wr w.heap.size [.int .i64 xid, .string xti, .string xpl, .int .i64 xyr, .int .i64 xct, .slice xa l.length xcap]) ∧ Below w.heap.size w wr) (fun _ i _ => l.length - (intOf i).toNat)
          case atStart => exact ⟨0, Nat.zero_le _, rfl, by rw [← hH.out] <;> first | rfl | (simp only [ByteArray.append_assoc]; done) | (simp only [ByteArray.append_assoc]; rfl), hBX.out.mono (by repeat' (first | exact Below.refl _ _ | with_reducible assumption | refine bext ?_ ?_ _ | refine Below.alloc ?_ ?_ _ | refine Below.setCell ?_ ?_ _ | refine Below.drew ?_ | (simp; done) | (have hbz := hb.size; first | omega | (simp; omega)) | (simp; omega) | omega)), (by repeat' (first | exact Below.refl _ _ | with_reducible assumption | refine bext ?_ ?_ _ | refine Below.alloc ?_ ?_ _ | refine Below.setCell ?_ ?_ _ | refine Below.drew ?_ | (simp; done) | (have hbz := hb.size; first | omega | (simp; omega)) | (simp; omega) | omega))⟩
          case round =>
            clear y4 y5
            obtain ⟨k, hk, rfl, rfl, hbx, hb⟩ := hrel
            obtain ⟨hB3, y5⟩ : w.heap.size < wr.heap.size ∧ wr.cell? ⟨w.heap.size, 5, none⟩ = some (.slice xa l.length xcap) := ⟨hbx.out.1, hbx.out.2 5 _ rfl⟩
            by_cases hlt : k < l.length
            · obtain ⟨rfl, hbw, d0⟩ := IntE.at (hc.mono hb) k hlt
              have hun := hcs.out k
              have HN := Lib.hid (H4.out k hlt)
              have hz := hU.out k
              have hz2 := hq.out k
              generalize gd l k = n at d0 hun HN hz2
              generalize numT n = N at hun HN hz2
              have z1 : (cT k).size + 1 ≤ 9223372036854775807 := by omega
              have z2 : (cT k).size + 1 + N.size ≤ 9223372036854775807 := by omega
              have z3 : 1 + N.size ≤ 9223372036854775807 := by omega
              have z4 : (cT k).size + (1 + N.size) ≤ 9223372036854775807 := by omega
              have z5 : (cT k).size + 1 + 1 ≤ 9223372036854775807 := by omega
              have z6 : (cT k).size + 1 + 1 + N.size ≤ 9223372036854775807 := by omega
              have z7 : (cT k).size + 1 + (1 + N.size) ≤ 9223372036854775807 := by omega
              obtain ⟨E, hE⟩ : ∃ E, E = (if k = 0 then cT 0 ++ ⟨#[32]⟩ else cT k) := ⟨_, rfl⟩
              rw [← hE] at hun
              replace hun := Lib.hid hun
              have hEz : E.size ≤ 360 := by
                rw [hE]
                split
                · have := hU.out 0
                  rw [ByteArray.size_append]
                  show _ + 1 ≤ _
                  omega
                · omega
              go_upto_if 48 with fail
              go_cut [4] from 40 to 59 (fun s W => s = .string E ∧ W = wr)
              case first =>
                by_cases hk0 : k = 0
                · rw [if_pos hk0] at hE
                  have hk0' : (k : Int) = 0 := by omega
                  subst hk0
                  replace hE := Lib.hid hE
                  have hz0 : ((0 : Nat) : Int) = 0 := rfl
                  go_wp2_with fail

                  go_meet
                  case rel => exact ⟨by rw [hE.out], rfl⟩
                · rw [if_neg hk0] at hE
                  replace hE := Lib.hid hE
                  have hk0' : ¬ ((k : Int) = 0) := by omega
                  go_wp2_with fail
                  go_meet
                  case rel => exact ⟨by rw [hE.out], rfl⟩
              case rest =>
                clear z1 z2 z3 z4 z5 z6 z7 hE
                obtain ⟨rfl, rfl⟩ := hcut
                have z1 : E.size + 1 ≤ 9223372036854775807 := by omega
                have z2 : E.size + 1 + N.size ≤ 9223372036854775807 := by omega
                have z3 : 1 + N.size ≤ 9223372036854775807 := by omega
                have z4 : E.size + (1 + N.size) ≤ 9223372036854775807 := by omega
                go_wp2_with (go_at_call 75; refine (HN.out _ (by repeat' (first | exact Below.refl _ _ | with_reducible assumption | refine bext ?_ ?_ _ | refine Below.alloc ?_ ?_ _ | refine Below.setCell ?_ ?_ _ | refine Below.drew ?_ | (simp; done) | (have hbz := hb.size; first | omega | (simp; omega)) | (simp; omega) | omega))).mono ?_; rintro e w' ⟨rfl, hbq⟩; obtain ⟨p, rfl⟩ := ext_of_below hbq; clear hbq)
                go_roundw
                case rel => exact ⟨k + 1, by omega, by go_num, by rw [← hun.out] <;> first | rfl | (simp only [ByteArray.append_assoc]; done) | (simp only [ByteArray.append_assoc]; rfl), hbx.out.mono (below_ext _ _), bext hb hb.size _⟩
                case measure => simp [intOf]; omega
            · obtain rfl : k = l.length := by omega
              go_wp2_with fail
              go_ret2
              exact ⟨by rw [hS.out]; rfl, hb⟩
set_option maxHeartbeats 8000000 in
set_option maxRecDepth 100000 in
theorem entryText_c (x : Ent) (w : World) (h : x.In w) (hf : x.Fits) (ht : Tab w) : Calls Tryd.prog 32 #[.agg #[.int .i64 x.id, .string x.ti, .string x.pl, .int .i64 x.yr, .int .i64 x.ct, .slice x.a x.sub.length x.cap]] w fun e w' => e = .returned (.tuple #[.string (enS x), .bool (isEnt x)]) ∧ Below w.heap.size w w' := by
  have HI := Lib.hid (fun W (hB : Below w.heap.size w W) => isEntry_c x W (Sl.mono h hB) hf)
  cases hA : isEnt x
  · have hS : Hid (enS x = ⟨#[]⟩) := (show enS x = _ by rw [enS, hA]; rfl)
    rw [hA] at HI
    replace HI := Lib.hid HI.out
    generalize enS x = T at hS ⊢
    clear hA h hf ht
    go_enter Tryd.func32, Tryd.ntmps32
    go_wp2_with (go_at_call 34; refine (HI.out _ (by repeat' (first | exact Below.refl _ _ | with_reducible assumption | refine bext ?_ ?_ _ | refine Below.alloc ?_ ?_ _ | refine Below.setCell ?_ ?_ _ | refine Below.drew ?_ | (simp; done) | (have hbz := hb.size; first | omega | (simp; omega)) | (simp; omega) | omega))).mono ?_; rintro e w' ⟨rfl, hbq⟩; obtain ⟨p, rfl⟩ := ext_of_below hbq; clear hbq)
    go_ret2
    exact ⟨by rw [hS.out]; rfl, (by repeat' (first | exact Below.refl _ _ | with_reducible assumption | refine bext ?_ ?_ _ | refine Below.alloc ?_ ?_ _ | refine Below.setCell ?_ ?_ _ | refine Below.drew ?_ | (simp; done) | (have hbz := hb.size; first | omega | (simp; omega)) | (simp; omega) | omega))⟩
  · obtain ⟨f1, f2, f3, f4, f5, f6, f7, f8, f9, f10⟩ := isEnt_facts hA
    have hS : Hid (enS x = enT (enH x) x.sub x.sub.length) := (show enS x = _ by rw [enS, hA]; rfl)
    rw [hA] at HI
    replace HI := Lib.hid HI.out
    have q1 : (numT x.id).size ≤ 18 := numF_size 17 x.id
    have q2 : (numT x.yr).size ≤ 18 := numF_size 17 x.yr
    have q3 : (numT x.ct).size ≤ 18 := numF_size 17 x.ct
    have H1 := Lib.hid (fun W (hB : Below w.heap.size w W) => text_c x.id W (by omega) (by omega) (ht.mono hB))
    have H2 := Lib.hid (fun W (hB : Below w.heap.size w W) => text_c x.yr W (by omega) (by omega) (ht.mono hB))
    have H3 := Lib.hid (fun W (hB : Below w.heap.size w W) => text_c x.ct W (by omega) (by omega) (ht.mono hB))
    have H4 := Lib.hid (fun j (hj : j < x.sub.length) W (hB : Below w.heap.size w W) => text_c (gd x.sub j) W (by have := f10 j hj; omega) (by have := f10 j hj; omega) (ht.mono hB))
    obtain ⟨qA, qB, qC, hHz⟩ := enH_size f8 f9
    have hU := Lib.hid (enT_size (enH x) x.sub hHz)
    have hcs := Lib.hid (fun k => show ((if k = 0 then enT (enH x) x.sub 0 ++ ⟨#[32]⟩ else enT (enH x) x.sub k) ++ ⟨#[60]⟩) ++ numT (gd x.sub k) = enT (enH x) x.sub (k + 1) from rfl)
    have hH : Hid (((enC x ++ ⟨#[44, 32]⟩) ++ numT x.ct) ++ ⟨#[120]⟩ = enT (enH x) x.sub 0) := (show enH x = enT (enH x) x.sub 0 from rfl)
    have sA : Hid ((numT x.id ++ ⟨#[32]⟩) ++ x.ti = enA x) := (show enA x = enA x from rfl)
    have sB : Hid ((if x.pl.toList = [] then enA x else (enA x ++ ⟨#[44, 32]⟩) ++ x.pl) = enB x) := (show enB x = enB x from rfl)
    have sC : Hid ((if x.yr = 0 then enB x else (enB x ++ ⟨#[44, 32]⟩) ++ numT x.yr) = enC x) := (show enC x = enC x from rfl)
    have hq := Lib.hid (show ∀ k, (numT (gd x.sub k)).size ≤ 18 from fun k => numF_size 17 _)
    generalize enT (enH x) x.sub = cT at hS hU hcs hH
    generalize enC x = C at sC hH qC
    generalize enB x = B at sB sC qB
    generalize enA x = A at sA sB qA
    clear hA hf f10 hHz ht
    generalize enS x = T at hS ⊢
    obtain ⟨xid, xti, xpl, xyr, xct, xa, xcap, l⟩ := x
    obtain ⟨a, cap, b, off, hv, hlc, hm, hc⟩ := h
    injection hv with e1 e2 e3
    subst e1 e3
    clear e2
    unfold maxLen at hm
    dsimp only at hlc hm hc f1 f2 f3 f4 f5 f6 f7 f8 f9 q1 q2 q3 H1 H2 H3 H4 HI hS hU hcs hH hq sA sB sC ⊢
    generalize numT xid = N1 at H1 sA q1
    generalize numT xyr = N2 at H2 sC q2
    generalize numT xct = N3 at H3 hH q3
    have BX0 := Lib.hid (BoxAt.new w [.int .i64 xid, .string xti, .string xpl, .int .i64 xyr, .int .i64 xct, .slice xa l.length xcap] 51)
    go_enter Tryd.func32, Tryd.ntmps32
    go_upto_region 3 with (go_at_call 34; refine (HI.out _ (by repeat' (first | exact Below.refl _ _ | with_reducible assumption | refine bext ?_ ?_ _ | refine Below.alloc ?_ ?_ _ | refine Below.setCell ?_ ?_ _ | refine Below.drew ?_ | (simp; done) | (have hbz := hb.size; first | omega | (simp; omega)) | (simp; omega) | omega))).mono ?_; rintro e w' ⟨rfl, hbq⟩; obtain ⟨p, rfl⟩ := ext_of_below hbq; clear hbq)
    go_cut [4] from 7 (fun s W => s = .string A ∧ Hid (BoxAt W w.heap.size [.int .i64 xid, .string xti, .string xpl, .int .i64 xyr, .int .i64 xct, .slice xa l.length xcap]) ∧ Below w.heap.size w W)
    case first =>
      have z1 : N1.size + 1 ≤ 9223372036854775807 := by omega
      have z2 : N1.size + 1 + xti.size ≤ 9223372036854775807 := by omega
      refine wp_region_ext (by kernel_rfl) (by kernel_rfl) ?_
      repeat (any_goals (first | go_big_quiet_step ((go_at_call 73; exact Calls.ext_of (H1.out _ (by repeat' (first | exact Below.refl _ _ | with_reducible assumption | refine bext ?_ ?_ _ | refine Below.alloc ?_ ?_ _ | refine Below.setCell ?_ ?_ _ | refine Below.drew ?_ | (simp; done) | (have hbz := hb.size; first | omega | (simp; omega)) | (simp; omega) | omega)))))))
      (refine wpQuiet_nil ?_)
      (rintro _ ⟨q, rfl⟩)
      go_wp2_with fail
      go_meet
      case rel => exact ⟨by rw [← sA.out] <;> first | rfl | (simp only [ByteArray.append_assoc]; done) | (simp only [ByteArray.append_assoc]; rfl), BX0.out.mono (by repeat' (first | exact Below.refl _ _ | with_reducible assumption | refine bext ?_ ?_ _ | refine Below.alloc ?_ ?_ _ | refine Below.setCell ?_ ?_ _ | refine Below.drew ?_ | (simp; done) | (have hbz := hb.size; first | omega | (simp; omega)) | (simp; omega) | omega)), (by repeat' (first | exact Below.refl _ _ | with_reducible assumption | refine bext ?_ ?_ _ | refine Below.alloc ?_ ?_ _ | refine Below.setCell ?_ ?_ _ | refine Below.drew ?_ | (simp; done) | (have hbz := hb.size; first | omega | (simp; omega)) | (simp; omega) | omega))⟩
    case rest =>
      obtain ⟨rfl, hBX, hBW⟩ := hcut
      obtain ⟨hB2, y2⟩ : w.heap.size < wc.heap.size ∧ wc.cell? ⟨w.heap.size, 2, none⟩ = some (.string xpl) := ⟨hBX.out.1, hBX.out.2 2 _ rfl⟩
      go_upto_if 19 with fail
      go_cut [4] from 7 (fun s W => s = .string B ∧ Hid (BoxAt W w.heap.size [.int .i64 xid, .string xti, .string xpl, .int .i64 xyr, .int .i64 xct, .slice xa l.length xcap]) ∧ Below w.heap.size w W)
      case first =>
        have z1 : A.size + 2 ≤ 9223372036854775807 := by omega
        have z2 : A.size + 2 + xpl.size ≤ 9223372036854775807 := by omega
        have z3 : 2 + xpl.size ≤ 9223372036854775807 := by omega
        have z4 : A.size + (2 + xpl.size) ≤ 9223372036854775807 := by omega
        by_cases hE : xpl.toList = []
        · have hE' : xpl.toList.isEmpty = true := by rw [hE]; rfl
          have sB2 := sB.out
          rw [if_pos hE] at sB2
          replace sB2 := Lib.hid sB2
          go_wp2_with fail
          all_goals first | (exfalso; rename_i hh; rw [hE'] at hh; exact absurd hh (by decide)) | (go_meet; case rel => exact ⟨by rw [← sB2.out], hBX, hBW⟩)
        · have hE' : xpl.toList.isEmpty = false := by simpa using hE
          have sB2 := sB.out
          rw [if_neg hE] at sB2
          replace sB2 := Lib.hid sB2
          go_wp2_with fail
          all_goals first | (exfalso; rename_i hh; rw [hE'] at hh; exact absurd hh (by decide)) | (go_meet; case rel => exact ⟨by rw [← sB2.out] <;> (first | rfl | (simp only [ByteArray.append_assoc]; done) | (simp only [ByteArray.append_assoc]; rfl)), hBX, hBW⟩)
      case rest =>
        clear y2 hB2
        obtain ⟨rfl, hBX, hBW⟩ := hcut
        obtain ⟨hB2, y3⟩ : w.heap.size < wc.heap.size ∧ wc.cell? ⟨w.heap.size, 3, none⟩ = some (.int .i64 xyr) := ⟨hBX.out.1, hBX.out.2 3 _ rfl⟩
        go_upto_if 27 with fail
        go_cut [4] from 7 (fun s W => s = .string C ∧ Hid (BoxAt W w.heap.size [.int .i64 xid, .string xti, .string xpl, .int .i64 xyr, .int .i64 xct, .slice xa l.length xcap]) ∧ Below w.heap.size w W)
        case first =>
          have z1 : B.size + 2 ≤ 9223372036854775807 := by omega
          have z2 : B.size + 2 + N2.size ≤ 9223372036854775807 := by omega
          have z3 : 2 + N2.size ≤ 9223372036854775807 := by omega
          have z4 : B.size + (2 + N2.size) ≤ 9223372036854775807 := by omega
          by_cases hY : xyr = 0
          · have sC2 := sC.out
            rw [if_pos hY] at sC2
            replace sC2 := Lib.hid sC2
            go_wp2_with fail
            go_meet
            case rel => exact ⟨by rw [← sC2.out], hBX, hBW⟩
          · have sC2 := sC.out
            rw [if_neg hY] at sC2
            replace sC2 := Lib.hid sC2
            go_wp2_with (go_at_call 73; refine (H2.out _ (by repeat' (first | exact Below.refl _ _ | with_reducible assumption | refine bext ?_ ?_ _ | refine Below.alloc ?_ ?_ _ | refine Below.setCell ?_ ?_ _ | refine Below.drew ?_ | (simp; done) | (have hbz := hb.size; first | omega | (simp; omega)) | (simp; omega) | omega))).mono ?_; rintro e w' ⟨rfl, hbq⟩; obtain ⟨p, rfl⟩ := ext_of_below hbq; clear hbq)
            go_meet
            case rel => exact ⟨by rw [← sC2.out] <;> first | rfl | (simp only [ByteArray.append_assoc]; done) | (simp only [ByteArray.append_assoc]; rfl), hBX.out.mono (by repeat' (first | exact Below.refl _ _ | with_reducible assumption | refine bext ?_ ?_ _ | refine Below.alloc ?_ ?_ _ | refine Below.setCell ?_ ?_ _ | refine Below.drew ?_ | (simp; done) | (have hbz := hb.size; first | omega | (simp; omega)) | (simp; omega) | omega)), (by repeat' (first | exact Below.refl _ _ | with_reducible assumption | refine bext ?_ ?_ _ | refine Below.alloc ?_ ?_ _ | refine Below.setCell ?_ ?_ _ | refine Below.drew ?_ | (simp; done) | (have hbz := hb.size; first | omega | (simp; omega)) | (simp; omega) | omega))⟩
        case rest =>
          clear y3 hB2
          obtain ⟨rfl, hBX, hBW⟩ := hcut
          obtain ⟨hB2, y4, y5⟩ : w.heap.size < wc.heap.size ∧ wc.cell? ⟨w.heap.size, 4, none⟩ = some (.int .i64 xct) ∧ wc.cell? ⟨w.heap.size, 5, none⟩ = some (.slice xa l.length xcap) := ⟨hBX.out.1, hBX.out.2 4 _ rfl, hBX.out.2 5 _ rfl⟩
          have z1 : C.size + 2 ≤ 9223372036854775807 := by omega
          have z2 : C.size + 2 + N3.size ≤ 9223372036854775807 := by omega
          have z3 : C.size + 2 + N3.size + 1 ≤ 9223372036854775807 := by omega
          have z4 : 2 + N3.size ≤ 9223372036854775807 := by omega
          have z5 : 2 + N3.size + 1 ≤ 9223372036854775807 := by omega
          have z6 : C.size + (2 + N3.size + 1) ≤ 9223372036854775807 := by omega
          go_wp2_with (go_at_call 73; refine (H3.out _ (by repeat' (first | exact Below.refl _ _ | with_reducible assumption | refine bext ?_ ?_ _ | refine Below.alloc ?_ ?_ _ | refine Below.setCell ?_ ?_ _ | refine Below.drew ?_ | (simp; done) | (have hbz := hb.size; first | omega | (simp; omega)) | (simp; omega) | omega))).mono ?_; rintro e w' ⟨rfl, hbq⟩; obtain ⟨p, rfl⟩ := ext_of_below hbq; clear hbq)
          clear z1 z2 z3 z4 z5 z6
          go_loopw [4, 44] (fun s i wr => ∃ k : Nat, k ≤ l.length ∧ i = .int .i64 k ∧ s = .string (cT k) ∧ Hid (BoxAt wr w.heap.size [.int .i64 xid, .string xti, .string xpl, .int .i64 xyr, .int .i64 xct, .slice xa l.length xcap]) ∧ Below w.heap.size w wr) (fun _ i _ => l.length - (intOf i).toNat)
          case atStart => exact ⟨0, Nat.zero_le _, rfl, by rw [← hH.out] <;> first | rfl | (simp only [ByteArray.append_assoc]; done) | (simp only [ByteArray.append_assoc]; rfl), hBX.out.mono (by repeat' (first | exact Below.refl _ _ | with_reducible assumption | refine bext ?_ ?_ _ | refine Below.alloc ?_ ?_ _ | refine Below.setCell ?_ ?_ _ | refine Below.drew ?_ | (simp; done) | (have hbz := hb.size; first | omega | (simp; omega)) | (simp; omega) | omega)), (by repeat' (first | exact Below.refl _ _ | with_reducible assumption | refine bext ?_ ?_ _ | refine Below.alloc ?_ ?_ _ | refine Below.setCell ?_ ?_ _ | refine Below.drew ?_ | (simp; done) | (have hbz := hb.size; first | omega | (simp; omega)) | (simp; omega) | omega))⟩
          case round =>
            clear y4 y5
            obtain ⟨k, hk, rfl, rfl, hbx, hb⟩ := hrel
            obtain ⟨hB3, y5⟩ : w.heap.size < wr.heap.size ∧ wr.cell? ⟨w.heap.size, 5, none⟩ = some (.slice xa l.length xcap) := ⟨hbx.out.1, hbx.out.2 5 _ rfl⟩
            by_cases hlt : k < l.length
            · obtain ⟨rfl, hbw, d0⟩ := IntE.at (hc.mono hb) k hlt
              have hun := hcs.out k
              have HN := Lib.hid (H4.out k hlt)
              have hz := hU.out k
              have hz2 := hq.out k
              generalize gd l k = n at d0 hun HN hz2
              generalize numT n = N at hun HN hz2
              have z1 : (cT k).size + 1 ≤ 9223372036854775807 := by omega
              have z2 : (cT k).size + 1 + N.size ≤ 9223372036854775807 := by omega
              have z3 : 1 + N.size ≤ 9223372036854775807 := by omega
              have z4 : (cT k).size + (1 + N.size) ≤ 9223372036854775807 := by omega
              have z5 : (cT k).size + 1 + 1 ≤ 9223372036854775807 := by omega
              have z6 : (cT k).size + 1 + 1 + N.size ≤ 9223372036854775807 := by omega
              have z7 : (cT k).size + 1 + (1 + N.size) ≤ 9223372036854775807 := by omega
              obtain ⟨E, hE⟩ : ∃ E, E = (if k = 0 then cT 0 ++ ⟨#[32]⟩ else cT k) := ⟨_, rfl⟩
              rw [← hE] at hun
              replace hun := Lib.hid hun
              have hEz : E.size ≤ 360 := by
                rw [hE]
                split
                · have := hU.out 0
                  rw [ByteArray.size_append]
                  show _ + 1 ≤ _
                  omega
                · omega
              go_upto_if 50 with fail
              go_cut [4] from 45 to 57 (fun s W => s = .string E ∧ W = wr)
              case first =>
                by_cases hk0 : k = 0
                · rw [if_pos hk0] at hE
                  have hk0' : (k : Int) = 0 := by omega
                  subst hk0
                  replace hE := Lib.hid hE
                  have hz0 : ((0 : Nat) : Int) = 0 := rfl
                  go_wp2_with fail
                  go_meet
                  case rel => exact ⟨by rw [hE.out], rfl⟩
                · rw [if_neg hk0] at hE
                  replace hE := Lib.hid hE
                  have hk0' : ¬ ((k : Int) = 0) := by omega
                  go_wp2_with fail
                  go_meet
                  case rel => exact ⟨by rw [hE.out], rfl⟩
              case rest =>
                clear z1 z2 z3 z4 z5 z6 z7 hE
                obtain ⟨rfl, rfl⟩ := hcut
                have z1 : E.size + 1 ≤ 9223372036854775807 := by omega
                have z2 : E.size + 1 + N.size ≤ 9223372036854775807 := by omega
                have z3 : 1 + N.size ≤ 9223372036854775807 := by omega
                have z4 : E.size + (1 + N.size) ≤ 9223372036854775807 := by omega
                go_wp2_with (go_at_call 73; refine (HN.out _ (by repeat' (first | exact Below.refl _ _ | with_reducible assumption | refine bext ?_ ?_ _ | refine Below.alloc ?_ ?_ _ | refine Below.setCell ?_ ?_ _ | refine Below.drew ?_ | (simp; done) | (have hbz := hb.size; first | omega | (simp; omega)) | (simp; omega) | omega))).mono ?_; rintro e w' ⟨rfl, hbq⟩; obtain ⟨p, rfl⟩ := ext_of_below hbq; clear hbq)
                go_roundw
                case rel => exact ⟨k + 1, by omega, by go_num, by rw [← hun.out] <;> first | rfl | (simp only [ByteArray.append_assoc]; done) | (simp only [ByteArray.append_assoc]; rfl), hbx.out.mono (below_ext _ _), bext hb hb.size _⟩
                case measure => simp [intOf]; omega
            · obtain rfl : k = l.length := by omega
              go_wp2_with fail
              go_ret2
              exact ⟨by rw [hS.out]; rfl, hb⟩
end Go.Proofs.YteainpflmofjaaaDoor
