/- Ranked cards: by the reference. No condition but sizes. -/
import Derived.Test.YteainpflmofjaaaGreatDoorRk24
import Derived.Test.YteainpflmofjaaaGreatDoorSd
import Derived.Deep.CutBlock
namespace Go.Proofs.YteainpflmofjaaaGreatDoor
open Go.RowKit
theorem insR_stop {α : Type} (lt : α → α → Bool) (x : α) (A B : List α) (hA : ∀ y, y ∈ A → lt x y = true) (hB : B = [] ∨ ∃ y C, B = y :: C ∧ lt x y = false) : insR lt x (A ++ B) = A ++ x :: B := by
  induction A with
  | nil =>
    rcases hB with rfl | ⟨y, C, rfl, h⟩
    · rfl
    · simp [insR, h]
  | cons y A ih => simp [insR, hA y (by simp), ih (fun z hz => hA z (by simp [hz]))]
/-- put into an order that is held forwards -/
theorem ins_fwd {α : Type} [Inhabited α] (lt : α → α → Bool) (x : α) (R : List α) (k : Nat) (hk : k ≤ R.length) (hA : ∀ i, k ≤ i → i < R.length → lt x (gd R.reverse i) = true) (hB : k = 0 ∨ lt x (gd R.reverse (k - 1)) = false) : (insR lt x R).reverse = R.reverse.take k ++ [x] ++ R.reverse.drop k := by
  have e : R = (R.reverse.drop k).reverse ++ (R.reverse.take k).reverse := by
    rw [← List.reverse_append, List.take_append_drop, List.reverse_reverse]
  conv => lhs; rw [e]
  rw [insR_stop lt x]
  · simp
  · intro y hy
    rw [List.mem_reverse] at hy
    obtain ⟨i, hi, rfl⟩ := List.mem_iff_getElem.1 hy
    rw [List.length_drop, List.length_reverse] at hi
    have := hA (k + i) (by omega) (by omega)
    rw [gd_get (by simp; omega)] at this
    rw [List.getElem_drop]
    exact this
  · rcases hB with rfl | hB
    · left; simp
    · rcases Nat.eq_zero_or_pos k with rfl | h0
      · left; simp
      · right
        refine ⟨gd R.reverse (k - 1), (R.reverse.take (k - 1)).reverse, ?_, hB⟩
        have : R.reverse.take k = R.reverse.take (k - 1) ++ [gd R.reverse (k - 1)] := by
          rw [← take_succ_gd (by simp; omega), Nat.sub_add_cancel h0]
        rw [this]; simp
theorem rkS_no {l : List Crd} {ws : List ByteArray} {k : Nat} (hk : k < l.length) (h : ¬ 0 < mch ws (gd l k)) : rkS l ws (k + 1) = rkS l ws k := by
  rw [rkS, take_succ_gd hk, List.filter_append]; simp [rkF, h, rkS]
theorem rkS_yes {l : List Crd} {ws : List ByteArray} {k : Nat} (hk : k < l.length) (h : 0 < mch ws (gd l k)) : rkS l ws (k + 1) = insR (ltM ws) (gd l k) (rkS l ws k) := by
  have e : [gd l k].filter (rkF ws) = [gd l k] := by simp [rkF, h]
  rw [rkS, take_succ_gd hk, List.filter_append, e, sortR_push]; rfl
theorem insR_mem {α : Type} (lt : α → α → Bool) (x : α) (P : List α) : ∀ y, y ∈ insR lt x P → y = x ∨ y ∈ P := by
  induction P with
  | nil => intro y hy; simp [insR] at hy; exact .inl hy
  | cons z P ih =>
    intro y hy
    rw [insR] at hy
    split at hy
    · rcases List.mem_cons.1 hy with rfl | h
      · exact .inr (by simp)
      · rcases ih y h with h | h
        · exact .inl h
        · exact .inr (by simp [h])
    · rcases List.mem_cons.1 hy with h | h
      · exact .inl h
      · exact .inr h
theorem sortR_mem {α : Type} (lt : α → α → Bool) (P : List α) : ∀ y, y ∈ sortR lt P → y ∈ P := by
  suffices hs : ∀ Q : List α, ∀ y, y ∈ sortR lt Q.reverse → y ∈ Q by
    intro y hy
    have := hs P.reverse y (by rwa [List.reverse_reverse])
    simpa using this
  intro Q
  induction Q with
  | nil => intro y hy; simp [sortR] at hy
  | cons x Q ih =>
    intro y hy
    rw [List.reverse_cons, sortR_push] at hy
    rcases insR_mem lt x _ y hy with h | h
    · simp [h]
    · simp [ih y h]
theorem rkS_mem {l : List Crd} {ws : List ByteArray} {k : Nat} : ∀ y, y ∈ rkS l ws k → y ∈ l := fun y hy => List.mem_of_mem_take (List.mem_filter.1 (sortR_mem _ _ y hy)).1
/-- a card of the list is found by its id -/
theorem crdIdx_of {l : List Crd} (h : areCrd l = true) (x : Crd) (hx : x ∈ l) : ∃ j, j < l.length ∧ gd l j = x ∧ crdIdx l x.id = some j := by
  obtain ⟨j, hj, rfl⟩ := List.mem_iff_getElem.1 hx
  refine ⟨j, hj, gd_get hj, ?_⟩
  refine findTo_some (fun i hi => ?_) ?_ hj
  · rw [← gd_get hj]
    have := crd_id_iff h (i := j) (k := i) hj (by omega)
    simp only [beq_eq_false_iff_ne, ne_eq, this]
    omega
  · rw [gd_get hj]; simp
theorem gd_ids (L : List Crd) (i : Nat) (hi : i < L.length) : gd (idsC L) i = (gd L i).id := by
  rw [gd_get (by simpa [idsC] using hi), gd_get hi]; simp [idsC]
set_option maxHeartbeats 1000000 in
set_option maxRecDepth 100000 in
theorem l24Match_c (x : Crd) (v : Value) (ws : List ByteArray) (w : World) (hx : x.In w) (hv : Sl w StrE.enc 1 v ws) (hl : x.sub.length ≤ 1048576) : Calls Tryz.prog 40 #[.agg #[.int .i64 x.id, .int .i64 x.yr, .slice x.a x.sub.length x.cap], v] w fun e w' => e = .returned (.int .i64 (mch ws x)) ∧ Below w.heap.size w w' := by
  have A0 := below_alloc w (.cells #[.int .i64 x.id, .int .i64 x.yr, .slice x.a x.sub.length x.cap] 34)
  have hC := Lib.hid (fun s => l24Has_c _ ws s _ (hv.mono A0))
  have hm0 := Lib.hid (show mch ws x = ((commonL x.sub ws).length : Int) from rfl)
  obtain ⟨xid, xyr, xa, xcap, xs⟩ := x
  obtain ⟨a, cap, b, off, hv', hlc, hm, hc⟩ := hx
  injection hv' with e1 _ e2
  subst e1 e2
  dsimp only at hlc hm hc hl A0 hC hm0 ⊢
  unfold maxLen at hm
  replace hc := hc.mono A0
  go_enter Tryz.func40, Tryz.ntmps40
  go_wp2_with fail
  go_loop [5, 6] (fun n i => ∃ k : Nat, k ≤ xs.length ∧ i = .int .i64 k ∧ n = .int .i64 ((commonL (xs.take k) ws).length : Int)) (fun _ i => xs.length - (intOf i).toNat)
  case atStart => exact ⟨0, Nat.zero_le _, rfl, by simp [commonL]⟩
  case round =>
    obtain ⟨k, hk, rfl, rfl⟩ := hrel
    by_cases hlt : k < xs.length
    · obtain ⟨rfl, hbw, c0⟩ := StrE.at hc k hlt
      have hcl := commonL_len (xs.take k) ws
      rw [List.length_take] at hcl
      cases hq : hasW ws (gd xs k)
      · have ho := Lib.hid (commonL_no hlt hq)
        have hC1 := hC.out (gd xs k)
        rw [hq] at hC1
        replace hC1 := Lib.hid hC1
        clear hq
        go_wp2_with (go_at_call 34; refine (hC1.out).mono ?_; rintro e w' ⟨rfl, rfl⟩)
        go_round
        case rel => exact ⟨k + 1, by omega, by go_num, by rw [ho.out]⟩
        case measure => simp [intOf]; omega
      · have ho := Lib.hid (commonL_yes hlt hq)
        have hC1 := hC.out (gd xs k)
        rw [hq] at hC1
        replace hC1 := Lib.hid hC1
        clear hq
        go_wp2_with (go_at_call 34; refine (hC1.out).mono ?_; rintro e w' ⟨rfl, rfl⟩)
        go_round
        case rel => exact ⟨k + 1, by omega, by go_num, by rw [ho.out, List.length_append, List.length_singleton]; go_num⟩
        case measure => simp [intOf]; omega
    · obtain rfl : k = xs.length := by omega
      rw [List.take_length]
      go_wp2_with fail
      go_ret
      exact ⟨ret_int hm0.out.symm, A0⟩
set_option maxHeartbeats 8000000 in
set_option maxRecDepth 100000 in
theorem specRankCards_c (v u : Value) (l : List Crd) (ws : List ByteArray) (w : World) (h : Sl w Crd.enc 3 v l) (hd : Crd.Deep w l) (hs : ∀ i, i < l.length → StrE.Fits (gd l i).sub) (hu : Sl w StrE.enc 1 u ws) (hus : StrE.Fits ws) : Calls Tryz.prog 12 #[v, u] w (RetSlB w 3 IntE.enc 1 (rkL l ws) (rkG l ws)) := by
  have HA := Lib.hid (fun W (hB : Below w.heap.size w W) => l24Good_c v l W (h.mono hB) (hd.mono hB) hs)
  have HW := Lib.hid (fun W (hB : Below w.heap.size w W) => l24Words_c u ws W (hu.mono hB) hus)
  have HF := Lib.hid (fun n W (hB : Below w.heap.size w W) => l24Find_c v l n W (h.mono hB))
  have HM := fun (hl6 : ∀ i, i < l.length → (gd l i).sub.length ≤ 1048576) => Lib.hid (fun i W (hi : i < l.length) (hB : Below w.heap.size w W) => l24Match_c (gd l i) u ws W ((hd i hi).mono hB) (hu.mono hB) (hl6 i hi))
  obtain ⟨i', hi', hy0, hy1, hy2⟩ := info_parts (show (Tryz.prog.info? 3).map (fun i => (i.zero, i.size, i.bytes)) = some (some (.int .i64 0), 1, 8) by kernel_rfl)
  have hway := rk_way l ws
  generalize rkL l ws = L at hway ⊢
  generalize rkG l ws = ok at hway ⊢
  obtain ⟨a, cap, b, off, rfl, hlc, hm, hc⟩ := h
  obtain ⟨a2, cap2, b2, off2, rfl, hlc2, hm2, hc2⟩ := hu
  unfold maxLen at hm hm2
  rcases hway with ⟨h1, rfl, rfl⟩ | ⟨h1, h2, rfl, rfl⟩ | ⟨h1, h2, rfl, rfl⟩
  · rw [h1] at HA
    replace HA := Lib.hid HA.out
    clear h1 HW HM
    go_enter Tryz.func12, Tryz.ntmps12
    go_wp2_with (go_at_call 32; refine (HA.out _ (by repeat' (first | exact Below.refl _ _ | with_reducible assumption | refine bext ?_ ?_ _ | refine Below.alloc ?_ ?_ _ | refine Below.setCell ?_ ?_ _ | refine Below.drew ?_ | (simp; done) | (have hbz := hb.size; first | omega | (simp; omega)) | (simp; omega) | omega))).mono ?_; rintro e w' ⟨rfl, hbq⟩; obtain ⟨p, rfl⟩ := ext_of_below hbq; clear hbq)
    go_ret2
    exact ⟨_, rfl, Own.empty' (by simp) (by simp), (by repeat' (first | exact Below.refl _ _ | with_reducible assumption | refine bext ?_ ?_ _ | refine Below.alloc ?_ ?_ _ | refine Below.setCell ?_ ?_ _ | refine Below.drew ?_ | (simp; done) | (have hbz := hb.size; first | omega | (simp; omega)) | (simp; omega) | omega))⟩
  · rw [h1] at HA
    replace HA := Lib.hid HA.out
    cases h3 : words6 ws
    · rw [h3] at HW
      replace HW := Lib.hid HW.out
      clear h1 h2 h3 HM
      go_enter Tryz.func12, Tryz.ntmps12
      go_wp2_with (first | (go_at_call 32; refine (HA.out _ (by repeat' (first | exact Below.refl _ _ | with_reducible assumption | refine bext ?_ ?_ _ | refine Below.alloc ?_ ?_ _ | refine Below.setCell ?_ ?_ _ | refine Below.drew ?_ | (simp; done) | (have hbz := hb.size; first | omega | (simp; omega)) | (simp; omega) | omega))).mono ?_; rintro e w' ⟨rfl, hbq⟩; obtain ⟨p, rfl⟩ := ext_of_below hbq; clear hbq) | (go_at_call 33; refine (HW.out _ (by repeat' (first | exact Below.refl _ _ | with_reducible assumption | refine bext ?_ ?_ _ | refine Below.alloc ?_ ?_ _ | refine Below.setCell ?_ ?_ _ | refine Below.drew ?_ | (simp; done) | (have hbz := hb.size; first | omega | (simp; omega)) | (simp; omega) | omega))).mono ?_; rintro e w' ⟨rfl, rfl⟩))
      go_ret2
      exact ⟨_, rfl, Own.empty' (by simp) (by simp), (by repeat' (first | exact Below.refl _ _ | with_reducible assumption | refine bext ?_ ?_ _ | refine Below.alloc ?_ ?_ _ | refine Below.setCell ?_ ?_ _ | refine Below.drew ?_ | (simp; done) | (have hbz := hb.size; first | omega | (simp; omega)) | (simp; omega) | omega))⟩
    · rw [h3] at HW h2
      replace HW := Lib.hid HW.out
      obtain h0 : ws.length = 0 := by simpa using h2
      have h0' : ((ws.length : Int) == 0) = true := by simp [h0]
      clear h1 h2 h3 HM h0
      go_enter Tryz.func12, Tryz.ntmps12
      go_wp2_with (first | (go_at_call 32; refine (HA.out _ (by repeat' (first | exact Below.refl _ _ | with_reducible assumption | refine bext ?_ ?_ _ | refine Below.alloc ?_ ?_ _ | refine Below.setCell ?_ ?_ _ | refine Below.drew ?_ | (simp; done) | (have hbz := hb.size; first | omega | (simp; omega)) | (simp; omega) | omega))).mono ?_; rintro e w' ⟨rfl, hbq⟩; obtain ⟨p, rfl⟩ := ext_of_below hbq; clear hbq) | (go_at_call 33; refine (HW.out _ (by repeat' (first | exact Below.refl _ _ | with_reducible assumption | refine bext ?_ ?_ _ | refine Below.alloc ?_ ?_ _ | refine Below.setCell ?_ ?_ _ | refine Below.drew ?_ | (simp; done) | (have hbz := hb.size; first | omega | (simp; omega)) | (simp; omega) | omega))).mono ?_; rintro e w' ⟨rfl, rfl⟩))
      go_ret2
      exact ⟨_, rfl, Own.empty' (by simp) (by simp), (by repeat' (first | exact Below.refl _ _ | with_reducible assumption | refine bext ?_ ?_ _ | refine Below.alloc ?_ ?_ _ | refine Below.setCell ?_ ?_ _ | refine Below.drew ?_ | (simp; done) | (have hbz := hb.size; first | omega | (simp; omega)) | (simp; omega) | omega))⟩
  · obtain ⟨h3, h4⟩ : words6 ws = true ∧ 0 < ws.length := by simpa using h2
    have h12 : l.length ≤ 12 := by have h1c := h1; simp [areCrd] at h1c; exact h1c.2
    replace HM := HM (fun i hi => by have := crd_six h1 i hi; omega)
    have hfind := Lib.hid (crdIdx_of h1)
    have h4' : ((ws.length : Int) == 0) = false := by simp; rintro rfl; simp at h4
    rw [h1] at HA
    rw [h3] at HW
    replace HA := Lib.hid HA.out
    replace HW := Lib.hid HW.out
    replace hd := Lib.hid hd
    clear h1 h2 h3 h4
    go_enter Tryz.func12, Tryz.ntmps12
    go_wp2_with (first | (go_at_call 32; refine (HA.out _ (by repeat' (first | exact Below.refl _ _ | with_reducible assumption | refine bext ?_ ?_ _ | refine Below.alloc ?_ ?_ _ | refine Below.setCell ?_ ?_ _ | refine Below.drew ?_ | (simp; done) | (have hbz := hb.size; first | omega | (simp; omega)) | (simp; omega) | omega))).mono ?_; rintro e w' ⟨rfl, hbq⟩; obtain ⟨p, rfl⟩ := ext_of_below hbq; clear hbq) | (go_at_call 33; refine (HW.out _ (by repeat' (first | exact Below.refl _ _ | with_reducible assumption | refine bext ?_ ?_ _ | refine Below.alloc ?_ ?_ _ | refine Below.setCell ?_ ?_ _ | refine Below.drew ?_ | (simp; done) | (have hbz := hb.size; first | omega | (simp; omega)) | (simp; omega) | omega))).mono ?_; rintro e w' ⟨rfl, rfl⟩))
    refine wpAt fun W hW => ?_
    have BW : Below w.heap.size w W := by rw [hW]; exact (by repeat' (first | exact Below.refl _ _ | with_reducible assumption | refine bext ?_ ?_ _ | refine Below.alloc ?_ ?_ _ | refine Below.setCell ?_ ?_ _ | refine Below.drew ?_ | (simp; done) | (have hbz := hb.size; first | omega | (simp; omega)) | (simp; omega) | omega))
    have OW : Own W w.heap.size 3 IntE.enc 1 (.slice (some ⟨w.heap.size + p.os.size, 0, none⟩) 0 0) ([] : List Int) := by rw [hW]; exact Own.empty' (by simp) (by simp)
    clear hW HA HW
    generalize w.heap.size + p.os.size = g0 at OW ⊢
    replace OW := Lib.hid OW
    go_loopw [6, 7, 8, 9] (fun o vi _ _ wr => ∃ (i g cap' : Nat), i ≤ l.length ∧ vi = .int .i64 i ∧ o = .slice (some ⟨g, 0, none⟩) (rkS l ws i).length cap' ∧ (rkS l ws i).length ≤ cap' ∧ cap' ≤ 9223372036854775807 ∧ Hid (Own wr w.heap.size 3 IntE.enc 1 (.slice (some ⟨g, 0, none⟩) (rkS l ws i).length cap') (idsC (rkS l ws i).reverse)) ∧ Below w.heap.size w wr) (fun _ vi _ _ _ => l.length - (intOf vi).toNat)
    case atStart => exact ⟨0, g0, 0, Nat.zero_le _, rfl, rfl, Nat.zero_le _, by omega, OW.out, BW⟩
    case round =>
      obtain ⟨i, g, cap', hi, rfl, rfl, hcc, hcm, ho, hb⟩ := hrel
      have hRm := Lib.hid (rkS_mem (l := l) (ws := ws) (k := i))
      have hRl := rkS_len l ws i
      have hRe := Lib.hid (show rkS l ws i = rkS l ws i from rfl)
      generalize hR : rkS l ws i = R at hRm hRl hcc ho hRe ⊢
      replace hR := Lib.hid hR
      obtain ⟨wo, hwo⟩ : ∃ x, x = wr := ⟨_, rfl⟩
      subst hwo
      by_cases hlt : i < l.length
      · obtain ⟨rfl, hbw, c0, c1, c2⟩ := Crd.at (hc.mono hb) i hlt
        have HM1 := HM.out i wo hlt hb
        have hNe := Lib.hid (show mch ws (gd l i) = mch ws (gd l i) from rfl)
        generalize hNN : mch ws (gd l i) = N at HM1 hNe
        replace HM1 := Lib.hid HM1
        replace hNN := Lib.hid hNN
        go_wp2_with fail
        refine HM1.out.mono ?_
        rintro e w1 ⟨rfl, b1⟩
        have hb1 := hb.trans (b1.mono hb.size)
        replace ho := Lib.hid (ho.out.mono b1)
        go_upto_block 2 with fail
        go_cut [9] from 39 to 58 (fun vk W => ∃ k : Nat, k ≤ R.length ∧ vk = .int .i64 k ∧ Hid (∀ q, k ≤ q → q < R.length → ltM ws (gd l i) (gd R.reverse q) = true) ∧ Hid (k = 0 ∨ ltM ws (gd l i) (gd R.reverse (k - 1)) = false) ∧ Hid (Own W w.heap.size 3 IntE.enc 1 (.slice (some ⟨g, 0, none⟩) R.length cap') (idsC R.reverse)) ∧ Below w.heap.size w W)
        case first =>
          go_wp2_with fail
          go_loopw [9] (fun vk wi => ∃ k : Nat, k ≤ R.length ∧ vk = .int .i64 k ∧ Hid (∀ q, k ≤ q → q < R.length → ltM ws (gd l i) (gd R.reverse q) = true) ∧ Hid (Own wi w.heap.size 3 IntE.enc 1 (.slice (some ⟨g, 0, none⟩) R.length cap') (idsC R.reverse)) ∧ Below w.heap.size w wi) (fun vk _ => (intOf vk).toNat)
          case atStart => exact ⟨R.length, Nat.le_refl _, rfl, fun q h1 h2 => by omega, ho.out, hb1⟩
          case round =>
          obtain ⟨k, hk, rfl, hall, ho2, hb2⟩ := hrel
          cases k with
          | zero =>
            go_wp2_with fail
            go_meet
            case rel => exact ⟨0, by omega, rfl, hall.out, .inl rfl, ho2.out, hb2⟩
          | succ k =>
            have hkr : k < R.reverse.length := by simp; omega
            obtain ⟨j, hj, hjx, hjf⟩ := hfind.out (gd R.reverse k) (hRm.out _ (by rw [← List.mem_reverse]; exact gd_mem hkr))
            have hjL := Lib.hid (show gd R.reverse k = gd l j from hjx.symm)
            have hid := gd_ids R.reverse k hkr
            rw [hjL.out] at hid hjf
            clear hjx
            obtain ⟨ao, co, bo, oo, hvo, hlo, hmo, hco⟩ := ho2.out.sl IntE.len
            have hcell := IntE.at hco k (by simp [idsC]; omega)
            rw [hid] at hcell
            obtain ⟨hao, hbo, d0⟩ := hcell
            injection hvo with e1 e2 e3
            clear e2
            rw [hao] at e1
            injection e1 with e1
            injection e1 with e4 e5
            subst e4 e5
            rw [Nat.zero_add] at d0
            clear hco e3 hao hid hlo hmo
            obtain ⟨-, -, f0, f1, f2⟩ := Crd.at (hc.mono hb2) j hj
            have HF1 := HF.out (gd l j).id wr hb2
            rw [hjf, show idxInt (some j) = (j : Int) from rfl] at HF1
            replace HF1 := Lib.hid HF1
            have HM2 := HM.out j wr hj hb2
            replace hjf := Lib.hid hjf
            by_cases hlv : mch ws (gd l j) < N
            · have hall2 : Hid (∀ q, k ≤ q → q < R.length → ltM ws (gd l i) (gd R.reverse q) = true) := fun q h1 h2 => by
                rcases Nat.eq_or_lt_of_le h1 with rfl | h3
                · rw [hjL.out, ltM, hNN.out]; exact decide_eq_true hlv
                · exact hall.out q (by omega) h2
              generalize mch ws (gd l j) = M at HM2 hlv
              replace HM2 := Lib.hid HM2
              go_wp2_with (go_at_call 41; refine (HF1.out).mono ?_; rintro e w' ⟨rfl, rfl⟩)
              refine HM2.out.mono ?_
              rintro e w2 ⟨rfl, b2⟩
              go_wp2_with fail
              go_roundw
              case rel => exact ⟨k, by omega, by go_num, hall2.out, ho2.out.mono b2, hb2.trans (b2.mono hb2.size)⟩
              case measure => simp [intOf]
            · have hst := Lib.hid (show k + 1 = 0 ∨ ltM ws (gd l i) (gd R.reverse (k + 1 - 1)) = false from .inr (by rw [Nat.add_sub_cancel, hjL.out, ltM, hNN.out]; exact decide_eq_false hlv))
              generalize mch ws (gd l j) = M at HM2 hlv
              replace HM2 := Lib.hid HM2
              go_wp2_with (go_at_call 41; refine (HF1.out).mono ?_; rintro e w' ⟨rfl, rfl⟩)
              refine HM2.out.mono ?_
              rintro e w2 ⟨rfl, b2⟩
              go_wp2_with fail
              go_meet
              case rel => exact ⟨k + 1, by omega, by go_num, hall.out, hst.out, ho2.out.mono b2, hb2.trans (b2.mono hb2.size)⟩
        case rest =>
          obtain ⟨k, hk, rfl, hall, hst, ho2, hb2⟩ := hcut
          by_cases hN : 0 < N
          · have hun := Lib.hid (ins_fwd (ltM ws) (gd l i) R k hk hall.out hst.out)
            rw [← hR.out, ← rkS_yes hlt (by rw [hNN.out]; exact hN), hR.out] at hun
            go_wp2_with fail
            have hSl := ho2.out.sl IntE.len
            have hidl : (idsC R.reverse).length = R.length := by simp [idsC]
            have hS1 := Lib.hid (fun W (hB : Below wc.heap.size wc W) => (hSl.mono hB).takeAt (n := k) (by rw [hidl]; exact hk))
            have hkk : k ≤ cap' := by omega
            have hkk1 : (k : Int) ≤ (cap' : Int) := by omega
            have hkk2 : (k : Int) ≤ (R.length : Int) := by omega
            obtain ⟨-, hbw2, y0, -, -⟩ := Crd.at (hc.mono hb2) i hlt
            have hnew := Lib.hid (show idsC (rkS l ws (i + 1)).reverse = (([] ++ (idsC R.reverse).take k) ++ [(gd l i).id]) ++ (idsC R.reverse).drop k by rw [hun.out]; simp [idsC, List.map_take, List.map_drop])
            have hnl := Lib.hid (show (idsC (rkS l ws (i + 1)).reverse).length = (rkS l ws (i + 1)).length by simp [idsC])
            have hnew := Lib.hid (show idsC (rkS l ws (i + 1)).reverse = (([] ++ (idsC R.reverse).take k) ++ [(gd l i).id]) ++ (idsC R.reverse).drop k by rw [hun.out]; simp [idsC, List.map_take, List.map_drop])
            have hnl := Lib.hid (show (idsC (rkS l ws (i + 1)).reverse).length = (rkS l ws (i + 1)).length by simp [idsC])
            by_cases hck : cap' = k
            · obtain rfl : k = R.length := by omega
              subst hck
              have hS3 : Hid (∀ W, Below wc.heap.size wc W → Sl W IntE.enc 1 (.slice (some ⟨g, 0, none⟩) 0 0) ((idsC R.reverse).drop R.length)) := fun W _ => by rw [List.drop_of_length_le (by rw [hidl]; omega)]; exact Sl.none (Nat.zero_le _)
              clear hSl hidl
              go_region_law (first | (refine step_cat IntE.len IntE.one (by rfl) (.tmp 61) (.tmp 64) 28 (by rfl) wc.heap.size 3 i' _ 8 Tryz.underlying28 hi' hy0 hy1 hy2 (by rfl) (by omega) (.slice (some ⟨wc.heap.size, 0, none⟩) 0 0) ([] : List _) (by rfl) (by first | exact Own.mono (Own.empty' (by simp) (by simp)) (drewOn _) | exact Own.mono (Own.empty' (by simp) (by simp)) (btrans (below_alloc _ _) (drewOn _)) | exact Own.empty' (by simp) (by simp) | exact Own.mono (Own.empty' (by simp) (by simp)) (below_alloc _ _)) _ ((idsC R.reverse).take R.length) (by rfl) (hS1.out _ (by repeat' (first | exact Below.refl _ _ | with_reducible assumption | refine bext ?_ ?_ _ | refine Below.alloc ?_ ?_ _ | refine Below.setCell ?_ ?_ _ | refine Below.drew ?_ | (simp; done) | (have hbz := hb.size; first | omega | (simp; omega)) | (simp; omega) | omega))) (by simp [maxLen, idsC]; omega) (by simp [idsC]; omega) (by first | omega | (simp; done) | (simp; omega) | (have hbz := hb.size; first | omega | (simp; omega))) ?_; intro v1 w1 oa ga; have ba := below_push (lo := wc.heap.size) (B := wc.heap.size) (a := wc) (by repeat' (first | exact Below.refl _ _ | with_reducible assumption | refine bext ?_ ?_ _ | refine Below.alloc ?_ ?_ _ | refine Below.setCell ?_ ?_ _ | refine Below.drew ?_ | (simp; done) | (have hbz := hb.size; first | omega | (simp; omega)) | (simp; omega) | omega)) ((by first | exact Own.mono (Own.empty' (by simp) (by simp)) (drewOn _) | exact Own.mono (Own.empty' (by simp) (by simp)) (btrans (below_alloc _ _) (drewOn _)) | exact Own.empty' (by simp) (by simp) | exact Own.mono (Own.empty' (by simp) (by simp)) (below_alloc _ _)) : Own _ wc.heap.size 3 IntE.enc 1 (.slice (some ⟨wc.heap.size, 0, none⟩) 0 0) []) ga (Nat.le_refl _) (by first | omega | (simp; done) | (simp; omega) | (have hbz := hb.size; first | omega | (simp; omega))); have za := ba.size; have y1 := cellOn ba y0) | (refine step_cat IntE.len IntE.one (by rfl) (.tmp 61) (.tmp 64) 28 (by rfl) wc.heap.size 3 i' _ 8 Tryz.underlying28 hi' hy0 hy1 hy2 (by rfl) (by omega) (.slice (some ⟨wc.heap.size + 1, 0, none⟩) 0 0) ([] : List _) (by rfl) (by first | exact Own.mono (Own.empty' (by simp) (by simp)) (drewOn _) | exact Own.mono (Own.empty' (by simp) (by simp)) (btrans (below_alloc _ _) (drewOn _)) | exact Own.empty' (by simp) (by simp) | exact Own.mono (Own.empty' (by simp) (by simp)) (below_alloc _ _)) _ ((idsC R.reverse).take R.length) (by rfl) (hS1.out _ (by repeat' (first | exact Below.refl _ _ | with_reducible assumption | refine bext ?_ ?_ _ | refine Below.alloc ?_ ?_ _ | refine Below.setCell ?_ ?_ _ | refine Below.drew ?_ | (simp; done) | (have hbz := hb.size; first | omega | (simp; omega)) | (simp; omega) | omega))) (by simp [maxLen, idsC]; omega) (by simp [idsC]; omega) (by first | omega | (simp; done) | (simp; omega) | (have hbz := hb.size; first | omega | (simp; omega))) ?_; intro v1 w1 oa ga; have ba := below_push (lo := wc.heap.size) (B := wc.heap.size) (a := wc) (by repeat' (first | exact Below.refl _ _ | with_reducible assumption | refine bext ?_ ?_ _ | refine Below.alloc ?_ ?_ _ | refine Below.setCell ?_ ?_ _ | refine Below.drew ?_ | (simp; done) | (have hbz := hb.size; first | omega | (simp; omega)) | (simp; omega) | omega)) ((by first | exact Own.mono (Own.empty' (by simp) (by simp)) (drewOn _) | exact Own.mono (Own.empty' (by simp) (by simp)) (btrans (below_alloc _ _) (drewOn _)) | exact Own.empty' (by simp) (by simp) | exact Own.mono (Own.empty' (by simp) (by simp)) (below_alloc _ _)) : Own _ wc.heap.size 3 IntE.enc 1 (.slice (some ⟨wc.heap.size + 1, 0, none⟩) 0 0) []) ga (Nat.le_refl _) (by first | omega | (simp; done) | (simp; omega) | (have hbz := hb.size; first | omega | (simp; omega))); have za := ba.size; have y1 := cellOn ba y0) | (refine step_push IntE.len IntE.one (by rfl) (.tmp 65) (.tmp 71) 28 (by rfl) wc.heap.size 3 i' _ 8 Tryz.underlying28 hi' hy0 hy1 hy2 (by rfl) (by omega) v1 ([] ++ ((idsC R.reverse).take R.length)) (by rfl) (oa.mono (by repeat' (first | exact Below.refl _ _ | with_reducible assumption | refine bext ?_ ?_ _ | refine Below.alloc ?_ ?_ _ | refine Below.setCell ?_ ?_ _ | refine Below.drew ?_ | (simp; done) | (have hbz := hb.size; first | omega | (simp; omega)) | (simp; omega) | omega))) _ 1 (gd l i).id (by rfl) (by omega) (by unfold maxLen; omega) (by first | exact fun j u hu => new_cells _ [.int .i64 (gd l i).id] _ _ (by simp) j u hu | exact fun j u hu => one_cell (cellKept (by simp) ga (by simp [Value.ownBlock])) j u hu) (by simp [maxLen, idsC]; omega) (by simp [idsC]; omega) (by first | omega | (simp; done) | (simp; omega) | (have hbz := hb.size; first | omega | (simp; omega))) ?_; intro v2 w2 ob gb; have bb := below_push (lo := wc.heap.size) (B := wc.heap.size) (a := wc) (Below.trans ba (by repeat' (first | exact Below.refl _ _ | with_reducible assumption | refine bext ?_ ?_ _ | refine Below.alloc ?_ ?_ _ | refine Below.setCell ?_ ?_ _ | refine Below.drew ?_ | (simp; done) | (have hbz := hb.size; first | omega | (simp; omega)) | (simp; omega) | omega))) (oa.mono (by repeat' (first | exact Below.refl _ _ | with_reducible assumption | refine bext ?_ ?_ _ | refine Below.alloc ?_ ?_ _ | refine Below.setCell ?_ ?_ _ | refine Below.drew ?_ | (simp; done) | (have hbz := hb.size; first | omega | (simp; omega)) | (simp; omega) | omega))) gb (Nat.le_refl _) (by first | omega | (simp; done) | (simp; omega) | (have hbz := hb.size; first | omega | (simp; omega))); have zb := bb.size) | (refine step_cat IntE.len IntE.one (by rfl) (.tmp 72) (.tmp 75) 28 (by rfl) wc.heap.size 3 i' _ 8 Tryz.underlying28 hi' hy0 hy1 hy2 (by rfl) (by omega) v2 (([] ++ ((idsC R.reverse).take R.length)) ++ [(gd l i).id]) (by rfl) (ob.mono (by repeat' (first | exact Below.refl _ _ | with_reducible assumption | refine bext ?_ ?_ _ | refine Below.alloc ?_ ?_ _ | refine Below.setCell ?_ ?_ _ | refine Below.drew ?_ | (simp; done) | (have hbz := hb.size; first | omega | (simp; omega)) | (simp; omega) | omega))) _ ((idsC R.reverse).drop R.length) (by rfl) (hS3.out _ (Below.trans bb (by repeat' (first | exact Below.refl _ _ | with_reducible assumption | refine bext ?_ ?_ _ | refine Below.alloc ?_ ?_ _ | refine Below.setCell ?_ ?_ _ | refine Below.drew ?_ | (simp; done) | (have hbz := hb.size; first | omega | (simp; omega)) | (simp; omega) | omega)))) (by simp [maxLen, idsC]; omega) (by simp [idsC]; omega) (by first | omega | (simp; done) | (simp; omega) | (have hbz := hb.size; first | omega | (simp; omega))) ?_; intro v3 w3 oc gc; have bc := below_push (lo := wc.heap.size) (B := wc.heap.size) (a := wc) (Below.trans bb (by repeat' (first | exact Below.refl _ _ | with_reducible assumption | refine bext ?_ ?_ _ | refine Below.alloc ?_ ?_ _ | refine Below.setCell ?_ ?_ _ | refine Below.drew ?_ | (simp; done) | (have hbz := hb.size; first | omega | (simp; omega)) | (simp; omega) | omega))) (ob.mono (by repeat' (first | exact Below.refl _ _ | with_reducible assumption | refine bext ?_ ?_ _ | refine Below.alloc ?_ ?_ _ | refine Below.setCell ?_ ?_ _ | refine Below.drew ?_ | (simp; done) | (have hbz := hb.size; first | omega | (simp; omega)) | (simp; omega) | omega))) gc (Nat.le_refl _) (by first | omega | (simp; done) | (simp; omega) | (have hbz := hb.size; first | omega | (simp; omega)))) | fail)
              all_goals
                obtain ⟨g3, cap3, hv3, -, -, hl3, hm3, -, -⟩ := oc.form IntE.len (by simp only [List.length_append, List.length_singleton]; omega)
                rw [← hnew.out] at oc hl3 hv3
                rw [hnl.out] at hl3 hv3
                subst hv3
                have Bc := hb2.trans (bc.mono hb2.size)
                replace oc := Lib.hid (oc.lower hb2.size)
                unfold maxLen at hm3
                clear oa ob ga gb gc ba bb bc za zb
                go_wp2_with fail
                go_roundw
                case rel => exact ⟨i + 1, g3, cap3, by omega, by go_num, rfl, hl3, by omega, oc.out, Bc⟩
                case measure => simp [intOf]; omega
            · have hck2 : ¬ (cap' : Int) = (k : Int) := by omega
              have hS3 := Lib.hid (fun W (hB : Below wc.heap.size wc W) => (hSl.mono hB).drop (n := k) (by rw [hidl]; exact hk))
              simp only [Nat.zero_add, Nat.mul_one] at hS3
              clear hSl hidl
              go_region_law (first | (refine step_cat IntE.len IntE.one (by rfl) (.tmp 61) (.tmp 64) 28 (by rfl) wc.heap.size 3 i' _ 8 Tryz.underlying28 hi' hy0 hy1 hy2 (by rfl) (by omega) (.slice (some ⟨wc.heap.size, 0, none⟩) 0 0) ([] : List _) (by rfl) (by first | exact Own.mono (Own.empty' (by simp) (by simp)) (drewOn _) | exact Own.mono (Own.empty' (by simp) (by simp)) (btrans (below_alloc _ _) (drewOn _)) | exact Own.empty' (by simp) (by simp) | exact Own.mono (Own.empty' (by simp) (by simp)) (below_alloc _ _)) _ ((idsC R.reverse).take k) (by rfl) (hS1.out _ (by repeat' (first | exact Below.refl _ _ | with_reducible assumption | refine bext ?_ ?_ _ | refine Below.alloc ?_ ?_ _ | refine Below.setCell ?_ ?_ _ | refine Below.drew ?_ | (simp; done) | (have hbz := hb.size; first | omega | (simp; omega)) | (simp; omega) | omega))) (by simp [maxLen, idsC]; omega) (by simp [idsC]; omega) (by first | omega | (simp; done) | (simp; omega) | (have hbz := hb.size; first | omega | (simp; omega))) ?_; intro v1 w1 oa ga; have ba := below_push (lo := wc.heap.size) (B := wc.heap.size) (a := wc) (by repeat' (first | exact Below.refl _ _ | with_reducible assumption | refine bext ?_ ?_ _ | refine Below.alloc ?_ ?_ _ | refine Below.setCell ?_ ?_ _ | refine Below.drew ?_ | (simp; done) | (have hbz := hb.size; first | omega | (simp; omega)) | (simp; omega) | omega)) ((by first | exact Own.mono (Own.empty' (by simp) (by simp)) (drewOn _) | exact Own.mono (Own.empty' (by simp) (by simp)) (btrans (below_alloc _ _) (drewOn _)) | exact Own.empty' (by simp) (by simp) | exact Own.mono (Own.empty' (by simp) (by simp)) (below_alloc _ _)) : Own _ wc.heap.size 3 IntE.enc 1 (.slice (some ⟨wc.heap.size, 0, none⟩) 0 0) []) ga (Nat.le_refl _) (by first | omega | (simp; done) | (simp; omega) | (have hbz := hb.size; first | omega | (simp; omega))); have za := ba.size; have y1 := cellOn ba y0) | (refine step_cat IntE.len IntE.one (by rfl) (.tmp 61) (.tmp 64) 28 (by rfl) wc.heap.size 3 i' _ 8 Tryz.underlying28 hi' hy0 hy1 hy2 (by rfl) (by omega) (.slice (some ⟨wc.heap.size + 1, 0, none⟩) 0 0) ([] : List _) (by rfl) (by first | exact Own.mono (Own.empty' (by simp) (by simp)) (drewOn _) | exact Own.mono (Own.empty' (by simp) (by simp)) (btrans (below_alloc _ _) (drewOn _)) | exact Own.empty' (by simp) (by simp) | exact Own.mono (Own.empty' (by simp) (by simp)) (below_alloc _ _)) _ ((idsC R.reverse).take k) (by rfl) (hS1.out _ (by repeat' (first | exact Below.refl _ _ | with_reducible assumption | refine bext ?_ ?_ _ | refine Below.alloc ?_ ?_ _ | refine Below.setCell ?_ ?_ _ | refine Below.drew ?_ | (simp; done) | (have hbz := hb.size; first | omega | (simp; omega)) | (simp; omega) | omega))) (by simp [maxLen, idsC]; omega) (by simp [idsC]; omega) (by first | omega | (simp; done) | (simp; omega) | (have hbz := hb.size; first | omega | (simp; omega))) ?_; intro v1 w1 oa ga; have ba := below_push (lo := wc.heap.size) (B := wc.heap.size) (a := wc) (by repeat' (first | exact Below.refl _ _ | with_reducible assumption | refine bext ?_ ?_ _ | refine Below.alloc ?_ ?_ _ | refine Below.setCell ?_ ?_ _ | refine Below.drew ?_ | (simp; done) | (have hbz := hb.size; first | omega | (simp; omega)) | (simp; omega) | omega)) ((by first | exact Own.mono (Own.empty' (by simp) (by simp)) (drewOn _) | exact Own.mono (Own.empty' (by simp) (by simp)) (btrans (below_alloc _ _) (drewOn _)) | exact Own.empty' (by simp) (by simp) | exact Own.mono (Own.empty' (by simp) (by simp)) (below_alloc _ _)) : Own _ wc.heap.size 3 IntE.enc 1 (.slice (some ⟨wc.heap.size + 1, 0, none⟩) 0 0) []) ga (Nat.le_refl _) (by first | omega | (simp; done) | (simp; omega) | (have hbz := hb.size; first | omega | (simp; omega))); have za := ba.size; have y1 := cellOn ba y0) | (refine step_push IntE.len IntE.one (by rfl) (.tmp 65) (.tmp 71) 28 (by rfl) wc.heap.size 3 i' _ 8 Tryz.underlying28 hi' hy0 hy1 hy2 (by rfl) (by omega) v1 ([] ++ ((idsC R.reverse).take k)) (by rfl) (oa.mono (by repeat' (first | exact Below.refl _ _ | with_reducible assumption | refine bext ?_ ?_ _ | refine Below.alloc ?_ ?_ _ | refine Below.setCell ?_ ?_ _ | refine Below.drew ?_ | (simp; done) | (have hbz := hb.size; first | omega | (simp; omega)) | (simp; omega) | omega))) _ 1 (gd l i).id (by rfl) (by omega) (by unfold maxLen; omega) (by first | exact fun j u hu => new_cells _ [.int .i64 (gd l i).id] _ _ (by simp) j u hu | exact fun j u hu => one_cell (cellKept (by simp) ga (by simp [Value.ownBlock])) j u hu) (by simp [maxLen, idsC]; omega) (by simp [idsC]; omega) (by first | omega | (simp; done) | (simp; omega) | (have hbz := hb.size; first | omega | (simp; omega))) ?_; intro v2 w2 ob gb; have bb := below_push (lo := wc.heap.size) (B := wc.heap.size) (a := wc) (Below.trans ba (by repeat' (first | exact Below.refl _ _ | with_reducible assumption | refine bext ?_ ?_ _ | refine Below.alloc ?_ ?_ _ | refine Below.setCell ?_ ?_ _ | refine Below.drew ?_ | (simp; done) | (have hbz := hb.size; first | omega | (simp; omega)) | (simp; omega) | omega))) (oa.mono (by repeat' (first | exact Below.refl _ _ | with_reducible assumption | refine bext ?_ ?_ _ | refine Below.alloc ?_ ?_ _ | refine Below.setCell ?_ ?_ _ | refine Below.drew ?_ | (simp; done) | (have hbz := hb.size; first | omega | (simp; omega)) | (simp; omega) | omega))) gb (Nat.le_refl _) (by first | omega | (simp; done) | (simp; omega) | (have hbz := hb.size; first | omega | (simp; omega))); have zb := bb.size) | (refine step_cat IntE.len IntE.one (by rfl) (.tmp 72) (.tmp 75) 28 (by rfl) wc.heap.size 3 i' _ 8 Tryz.underlying28 hi' hy0 hy1 hy2 (by rfl) (by omega) v2 (([] ++ ((idsC R.reverse).take k)) ++ [(gd l i).id]) (by rfl) (ob.mono (by repeat' (first | exact Below.refl _ _ | with_reducible assumption | refine bext ?_ ?_ _ | refine Below.alloc ?_ ?_ _ | refine Below.setCell ?_ ?_ _ | refine Below.drew ?_ | (simp; done) | (have hbz := hb.size; first | omega | (simp; omega)) | (simp; omega) | omega))) _ ((idsC R.reverse).drop k) (by rfl) (hS3.out _ (Below.trans bb (by repeat' (first | exact Below.refl _ _ | with_reducible assumption | refine bext ?_ ?_ _ | refine Below.alloc ?_ ?_ _ | refine Below.setCell ?_ ?_ _ | refine Below.drew ?_ | (simp; done) | (have hbz := hb.size; first | omega | (simp; omega)) | (simp; omega) | omega)))) (by simp [maxLen, idsC]; omega) (by simp [idsC]; omega) (by first | omega | (simp; done) | (simp; omega) | (have hbz := hb.size; first | omega | (simp; omega))) ?_; intro v3 w3 oc gc; have bc := below_push (lo := wc.heap.size) (B := wc.heap.size) (a := wc) (Below.trans bb (by repeat' (first | exact Below.refl _ _ | with_reducible assumption | refine bext ?_ ?_ _ | refine Below.alloc ?_ ?_ _ | refine Below.setCell ?_ ?_ _ | refine Below.drew ?_ | (simp; done) | (have hbz := hb.size; first | omega | (simp; omega)) | (simp; omega) | omega))) (ob.mono (by repeat' (first | exact Below.refl _ _ | with_reducible assumption | refine bext ?_ ?_ _ | refine Below.alloc ?_ ?_ _ | refine Below.setCell ?_ ?_ _ | refine Below.drew ?_ | (simp; done) | (have hbz := hb.size; first | omega | (simp; omega)) | (simp; omega) | omega))) gc (Nat.le_refl _) (by first | omega | (simp; done) | (simp; omega) | (have hbz := hb.size; first | omega | (simp; omega)))) | fail)
              all_goals
                obtain ⟨g3, cap3, hv3, -, -, hl3, hm3, -, -⟩ := oc.form IntE.len (by simp only [List.length_append, List.length_singleton]; omega)
                rw [← hnew.out] at oc hl3 hv3
                rw [hnl.out] at hl3 hv3
                subst hv3
                have Bc := hb2.trans (bc.mono hb2.size)
                replace oc := Lib.hid (oc.lower hb2.size)
                unfold maxLen at hm3
                clear oa ob ga gb gc ba bb bc za zb
                go_wp2_with fail
                go_roundw
                case rel => exact ⟨i + 1, g3, cap3, by omega, by go_num, rfl, hl3, by omega, oc.out, Bc⟩
                case measure => simp [intOf]; omega
          · have hun := Lib.hid (rkS_no hlt (by rw [hNN.out]; exact hN))
            go_wp2_with fail
            go_roundw
            case rel => exact ⟨i + 1, g, cap', by omega, by go_num, by rw [hun.out, hR.out], by rw [hun.out, hR.out]; exact hcc, hcm, by rw [hun.out, hR.out]; exact ho2.out, hb2⟩
            case measure => simp [intOf]; omega
      · obtain rfl : i = l.length := by omega
        go_wp2_with fail
        go_ret2
        exact ⟨_, rfl, by rw [hR.out]; exact ho.out, hb⟩
end Go.Proofs.YteainpflmofjaaaGreatDoor
