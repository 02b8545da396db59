/- Entries: what a list of entries is, by the program. No condition but sizes. -/
import Derived.Test.YteainpflmofjaaaDoorEn25
import Derived.Test.YteainpflmofjaaaDoorFindN
namespace Go.Proofs.YteainpflmofjaaaDoor
open Go.RowKit
theorem Ent.at' {x : Ent} {w : World} (h : x.In w) : ∃ b off, x.sub.length ≤ x.cap ∧ x.cap ≤ maxLen ∧ Cells w IntE.enc 1 x.a b off x.sub := by
  obtain ⟨a, cap, b, off, hv, hlc, hm, hc⟩ := h
  injection hv with e1 _ e2
  subst e1 e2
  exact ⟨b, off, hlc, hm, hc⟩
theorem Cells.drop {α : Type} [Inhabited α] {w : World} {enc : α → List Value} {k b off : Nat} {a : Option Addr} {l : List α} (h : Cells w enc k a b off l) (n : Nat) : Cells w enc k (some ⟨b, off + n * k, none⟩) b (off + n * k) (l.drop n) := fun i hi => by
  simp at hi
  obtain ⟨_, h2, h3⟩ := h (n + i) (by omega)
  refine ⟨rfl, h2, fun j v hv => ?_⟩
  rw [gd_drop] at hv
  have := h3 j v hv
  rwa [Nat.add_mul, ← Nat.add_assoc] at this
theorem Cells.none {α : Type} [Inhabited α] {w : World} {enc : α → List Value} {k b off : Nat} {a : Option Addr} : Cells w enc k a b off ([] : List α) := fun i hi => absurd hi (by simp)
set_option maxHeartbeats 1000000 in
theorem knows_c (x : Ent) (n : Int) (w : World) (h : x.In w) : Calls Tryd.prog 98 #[.agg #[.int .i64 x.id, .string x.ti, .string x.pl, .int .i64 x.yr, .int .i64 x.ct, .slice x.a x.sub.length x.cap], .int .i64 n] w fun e w' => e = .returned (.bool (knows x n)) ∧ Below w.heap.size w w' := by
  have hC := Lib.hid (fun W (hB : Below w.heap.size w W) => containsInt_c _ x.sub n W (h.mono hB))
  have hK := Lib.hid (show knows x n = (decide (x.id = n) || (findTo (fun i => gd x.sub i == n) x.sub.length).isSome) from rfl)
  generalize (findTo (fun i => gd x.sub i == n) x.sub.length).isSome = r at hC hK
  generalize knows x n = res at hK ⊢
  by_cases he : x.id = n
  all_goals
    go_enter Tryd.func98, Tryd.ntmps98
    go_wp2_with (go_at_call 122; refine (hC.out _ (by repeat' (first | exact Below.refl _ _ | with_reducible assumption | refine bext ?_ ?_ _ | refine Below.alloc ?_ ?_ _ | refine Below.setCell ?_ ?_ _ | refine Below.drew ?_ | (simp; done) | (have hbz := hb.size; first | omega | (simp; omega)) | (simp; omega) | omega))).mono ?_; rintro e w' ⟨rfl, rfl⟩)
    go_ret
    refine ⟨ret_bool ?_, (by repeat' (first | exact Below.refl _ _ | with_reducible assumption | refine bext ?_ ?_ _ | refine Below.alloc ?_ ?_ _ | refine Below.setCell ?_ ?_ _ | refine Below.drew ?_ | (simp; done) | (have hbz := hb.size; first | omega | (simp; omega)) | (simp; omega) | omega))⟩
    rw [hK.out]
    simp [he]
set_option maxHeartbeats 1000000 in
theorem l25Holds_c (x : Ent) (n : Int) (w : World) (h : x.In w) : Calls Tryd.prog 71 #[.agg #[.int .i64 x.id, .string x.ti, .string x.pl, .int .i64 x.yr, .int .i64 x.ct, .slice x.a x.sub.length x.cap], .int .i64 n] w fun e w' => e = .returned (.bool (knows x n)) ∧ Below w.heap.size w w' := by
  have hC := Lib.hid (fun W (hB : Below w.heap.size w W) => l1Has_c _ x.sub n W (h.mono hB))
  have hK := Lib.hid (show knows x n = (decide (x.id = n) || hasI x.sub n) from rfl)
  generalize hasI x.sub n = r at hC hK
  generalize knows x n = res at hK ⊢
  by_cases he : x.id = n
  all_goals
    go_enter Tryd.func71, Tryd.ntmps71
    go_wp2_with (go_at_call 106; refine (hC.out _ (by repeat' (first | exact Below.refl _ _ | with_reducible assumption | refine bext ?_ ?_ _ | refine Below.alloc ?_ ?_ _ | refine Below.setCell ?_ ?_ _ | refine Below.drew ?_ | (simp; done) | (have hbz := hb.size; first | omega | (simp; omega)) | (simp; omega) | omega))).mono ?_; rintro e w' ⟨rfl, rfl⟩)
    go_ret
    refine ⟨ret_bool ?_, (by repeat' (first | exact Below.refl _ _ | with_reducible assumption | refine bext ?_ ?_ _ | refine Below.alloc ?_ ?_ _ | refine Below.setCell ?_ ?_ _ | refine Below.drew ?_ | (simp; done) | (have hbz := hb.size; first | omega | (simp; omega)) | (simp; omega) | omega))⟩
    rw [hK.out]
    simp [he]
set_option maxHeartbeats 400000 in
theorem entryOf1_c (x : Ent) (n : Int) (b : Nat) (W : World) (h : x.In W) (hc : W.cell? ⟨b, 0, none⟩ = some (.int .i64 n)) : Calls Tryd.prog 102 #[.agg #[.int .i64 x.id, .string x.ti, .string x.pl, .int .i64 x.yr, .int .i64 x.ct, .slice x.a x.sub.length x.cap], .pointer (some ⟨b, 0, none⟩)] W fun e w' => e = .returned (.bool (knows x n)) ∧ Below W.heap.size W w' := by
  have hb := block_lt_of_cell hc
  have hh := Lib.hid h
  go_enter Tryd.func102, Tryd.ntmps102
  go_wp2_with (go_at_call 98; refine (knows_c x _ _ (hh.out.mono (by repeat' (first | exact Below.refl _ _ | with_reducible assumption | refine bext ?_ ?_ _ | refine Below.alloc ?_ ?_ _ | refine Below.setCell ?_ ?_ _ | refine Below.drew ?_ | (simp; done) | (have hbz := hb.size; first | omega | (simp; omega)) | (simp; omega) | omega)))).mono ?_; rintro e w' ⟨rfl, hbq⟩; obtain ⟨p, rfl⟩ := ext_of_below hbq; clear hbq)
  go_ret
  exact ⟨rfl, (by repeat' (first | exact Below.refl _ _ | with_reducible assumption | refine bext ?_ ?_ _ | refine Below.alloc ?_ ?_ _ | refine Below.setCell ?_ ?_ _ | refine Below.drew ?_ | (simp; done) | (have hbz := hb.size; first | omega | (simp; omega)) | (simp; omega) | omega))⟩
set_option maxHeartbeats 400000 in
theorem areEntries1_c (x : Ent) (n : Int) (b : Nat) (W : World) (h : x.In W) (hc : W.cell? ⟨b, 0, none⟩ = some (.int .i64 n)) : Calls Tryd.prog 97 #[.agg #[.int .i64 x.id, .string x.ti, .string x.pl, .int .i64 x.yr, .int .i64 x.ct, .slice x.a x.sub.length x.cap], .pointer (some ⟨b, 0, none⟩)] W fun e w' => e = .returned (.bool (knows x n)) ∧ Below W.heap.size W w' := by
  have hb := block_lt_of_cell hc
  have hh := Lib.hid h
  go_enter Tryd.func97, Tryd.ntmps97
  go_wp2_with (go_at_call 98; refine (knows_c x _ _ (hh.out.mono (by repeat' (first | exact Below.refl _ _ | with_reducible assumption | refine bext ?_ ?_ _ | refine Below.alloc ?_ ?_ _ | refine Below.setCell ?_ ?_ _ | refine Below.drew ?_ | (simp; done) | (have hbz := hb.size; first | omega | (simp; omega)) | (simp; omega) | omega)))).mono ?_; rintro e w' ⟨rfl, hbq⟩; obtain ⟨p, rfl⟩ := ext_of_below hbq; clear hbq)
  go_ret
  exact ⟨rfl, (by repeat' (first | exact Below.refl _ _ | with_reducible assumption | refine bext ?_ ?_ _ | refine Below.alloc ?_ ?_ _ | refine Below.setCell ?_ ?_ _ | refine Below.drew ?_ | (simp; done) | (have hbz := hb.size; first | omega | (simp; omega)) | (simp; omega) | omega))⟩
set_option maxHeartbeats 1000000 in
theorem entryOf_c (v : Value) (l : List Ent) (n : Int) (w : World) (h : Sl w Ent.enc 6 v l) (hd : Ent.Deep w l) : Calls Tryd.prog 66 #[v, .int .i64 n] w fun e w' => e = .returned (.int .i64 (idxInt (entOf l n))) ∧ Below w.heap.size w w' := by
  obtain ⟨a, cap, b, off, rfl, hlc, hm, hc⟩ := h
  have A0 := below_alloc w (.cells #[.int .i64 n] 3)
  have hF := Lib.hid (indexFuncEnt_c a cap b off l (w.alloc (.cells #[.int .i64 n] 3)) 102 #[.pointer (some ⟨w.heap.size, 0, none⟩)] (fun i => knows (gd l i) n) (Nat.le_trans hlc hm) (hc.mono A0) (fun _ _ => by kernel_rfl)
    (fun i W hi hB => entryOf1_c (gd l i) n w.heap.size W ((hd i hi).mono (btrans A0 hB)) ((hB.cell (p := ⟨w.heap.size, 0, none⟩) (by simp)).trans (by simp))))
  go_enter Tryd.func66, Tryd.ntmps66
  go_wp2_with fail
  refine hF.out.mono ?_
  rintro e w1 ⟨rfl, hb⟩
  go_wp2_with fail
  go_ret
  exact ⟨rfl, btrans A0 hb⟩
theorem ent_ways (l : List Ent) (k : Nat) : (isEnt (gd l k) = false ∧ Hid (entAt l k = false)) ∨ (isEnt (gd l k) = true ∧ ¬ 0 < k ∧ Hid (entAt l k = true)) ∨
    (isEnt (gd l k) = true ∧ 0 < k ∧ decide ((gd l k).id ≤ (gd l (k - 1)).id) = false ∧ Hid (entAt l k = true)) ∨ (isEnt (gd l k) = true ∧ 0 < k ∧ decide ((gd l k).id ≤ (gd l (k - 1)).id) = true ∧ Hid (entAt l k = false)) := by
  unfold Hid
  cases h : isEnt (gd l k)
  · exact .inl ⟨rfl, by simp [entAt, h]⟩
  · by_cases h0 : 0 < k
    · by_cases h1 : (gd l (k - 1)).id < (gd l k).id
      · exact .inr (.inr (.inl ⟨rfl, h0, by simp; omega, by simp [entAt, h, h1]⟩))
      · exact .inr (.inr (.inr ⟨rfl, h0, by simp; omega, by simp [entAt, h, h1]; omega⟩))
    · exact .inr (.inl ⟨rfl, h0, by simp [entAt, h]; omega⟩)
set_option maxHeartbeats 4000000 in
set_option maxRecDepth 100000 in
theorem areEntries_c (v : Value) (l : List Ent) (w : World) (h : Sl w Ent.enc 6 v l) (hd : Ent.Deep w l) (hs : ∀ i, i < l.length → (gd l i).Fits) : Calls Tryd.prog 59 #[v] w fun e w' => e = .returned (.bool (areEnt l)) ∧ Below w.heap.size w w' := by
  have HS := Lib.hid h
  obtain ⟨a, cap, b, off, rfl, hlc, hm, hc⟩ := h
  have hD := Lib.hid hd
  clear hd
  unfold maxLen at hm
  go_enter Tryd.func59, Tryd.ntmps59
  go_wp2_with fail
  go_loopw [9] (fun i wr => ∃ k : Nat, k ≤ l.length ∧ i = .int .i64 k ∧ Hid (∀ i, i < k → (entAt l i && alone l i) = true) ∧ Below w.heap.size w wr) (fun i _ => l.length - (intOf i).toNat)
  case atStart => exact ⟨0, Nat.zero_le _, rfl, fun i hi => by omega, Below.refl _ _⟩
  case round =>
    obtain ⟨k, hk, rfl, hall, hb⟩ := hrel
    by_cases hlt : k < l.length
    · obtain ⟨rfl, hbw, c0, c1, c2, c3, c4, c5⟩ := Ent.at (hc.mono hb) k hlt
      have d0 := fun (h0 : 0 < k) => (Ent.at (hc.mono hb) (k - 1) (by omega)).2.2.1
      have hC := fun W (hB : Below w.heap.size w W) => isEntry_c (gd l k) W ((hD.out k hlt).mono hB) (hs k hlt)
      rcases ent_ways l k with ⟨hd, ho⟩ | ⟨hd, hk0, ho⟩ | ⟨hd, hk0, h2, ho⟩ | ⟨hd, hk0, h2, ho⟩
      all_goals
        rw [hd] at hC
        replace hC := Lib.hid hC
        go_wp2_with fail
        refine wp_region_ext (by kernel_rfl) (by kernel_rfl) ?_
        repeat (any_goals (first | go_big_quiet_step ((go_at_call 34; exact Calls.ext_of (hC.out _ (by repeat' (first | exact Below.refl _ _ | with_reducible assumption | refine bext ?_ ?_ _ | refine Below.alloc ?_ ?_ _ | refine Below.setCell ?_ ?_ _ | refine Below.drew ?_ | (simp; done) | (have hbz := hb.size; first | omega | (simp; omega)) | (simp; omega) | omega)))))))
        (refine wpQuiet_nil ?_)
        (rintro _ ⟨q, rfl⟩)
        go_wp2_with fail
      all_goals try
        (go_ret
         exact ⟨ret_bool (areEnt_no k hlt (by rw [ho.out]; rfl)).symm, (by repeat' (first | exact Below.refl _ _ | with_reducible assumption | refine bext ?_ ?_ _ | refine Below.alloc ?_ ?_ _ | refine Below.setCell ?_ ?_ _ | refine Below.drew ?_ | (simp; done) | (have hbz := hb.size; first | omega | (simp; omega)) | (simp; omega) | omega))⟩)
      all_goals
        generalize e2 : ext (wr.alloc _) q = W2
        have hb2 : Below w.heap.size w W2 := by rw [← e2]; exact (by repeat' (first | exact Below.refl _ _ | with_reducible assumption | refine bext ?_ ?_ _ | refine Below.alloc ?_ ?_ _ | refine Below.setCell ?_ ?_ _ | refine Below.drew ?_ | (simp; done) | (have hbz := hb.size; first | omega | (simp; omega)) | (simp; omega) | omega))
        clear e2 c0 c1 c2 c3 c4 c5 d0 hC
        obtain ⟨sb, so, hsl, hsm, hsc⟩ := Ent.at' (hD.out k hlt)
        unfold maxLen at hsm
        generalize (gd l k).a = xa at hsc ⊢
        go_loopw [35] (fun i wq => ∃ j : Nat, j ≤ (gd l k).sub.length ∧ i = .int .i64 j ∧ Hid (∀ i, i < j → aloneAt l k i = true) ∧ Below w.heap.size w wq) (fun i _ => (gd l k).sub.length - (intOf i).toNat)
        case atStart => exact ⟨0, Nat.zero_le _, rfl, fun i hi => by omega, hb2⟩
        case round =>
          obtain ⟨j, hj, rfl, hjall, hbq⟩ := hrel
          have hzq := hbq.size
          by_cases hjl : j < (gd l k).sub.length
          · obtain ⟨rfl, hbs, s0⟩ := IntE.at (hsc.mono hbq) j hjl
            have hst := alone_step l k j hlt hjl
            generalize gd (gd l k).sub j = id at s0 hst
            have hE := fun W (hB : Below w.heap.size w W) => entryOf_c _ l id W (HS.out.mono hB) (hD.out.mono hB)
            by_cases he : entOf l id = some k
            · rw [he] at hE hst
              replace hE := Lib.hid (show ∀ W (hB : Below w.heap.size w W), Calls Tryd.prog 66 #[.slice (some ⟨b, off, none⟩) l.length cap, .int .i64 id] W fun e w' => e = .returned (.int .i64 (k : Int)) ∧ Below W.heap.size W w' from hE)
              simp only [decide_true, Bool.true_and] at hst
              have hN := fun (a' : Option Addr) (cap' b' off' : Nat) (l' : List Ent) W (hB : Below w.heap.size w W) (hm' : l'.length ≤ maxLen) (hc' : Cells W Ent.enc 6 a' b' off' l') (hd' : Ent.Deep w l') (c : Nat) (hcell : W.cell? ⟨c, 0, none⟩ = some (.int .i64 id)) =>
                containsFuncEnt_c a' cap' b' off' l' W 97 #[.pointer (some ⟨c, 0, none⟩)] (fun i => knows (gd l' i) id) hm' hc' (fun _ _ => by kernel_rfl)
                  (fun i W' hi hB' => areEntries1_c (gd l' i) id c W' ((hd' i hi).mono (hB.trans (hB'.mono hB.size))) ((hB'.cell (p := ⟨c, 0, none⟩) (block_lt_of_cell hcell)).trans hcell))
              have hdd : Ent.Deep w (l.drop (k + 1)) := fun i hi => by rw [gd_drop]; exact hD.out _ (by simp at hi; omega)
              by_cases hcap : cap = k + 1
              · subst hcap
                rw [List.drop_eq_nil_of_le hlc] at hst
                have hN2 := fun W hB c hcell => hN (some ⟨b, off, none⟩) 0 b off [] W hB (by simp) Cells.none (fun i hi => absurd hi (by simp)) c hcell
                replace hN2 := Lib.hid (show ∀ W (hB : Below w.heap.size w W) (c : Nat) (hcell : W.cell? ⟨c, 0, none⟩ = some (.int .i64 id)), Calls Tryd.prog 96 #[.slice (some ⟨b, off, none⟩) 0 0, .func (.func 97) #[] #[.pointer (some ⟨c, 0, none⟩)]] W fun e w' => e = .returned (.bool false) ∧ Below W.heap.size W w' from hN2)
                clear hN hdd he
                have hst := Lib.hid hst
                go_wp2_with (first | (go_at_call 66; refine (hE.out _ (by repeat' (first | exact Below.refl _ _ | with_reducible assumption | refine bext ?_ ?_ _ | refine Below.alloc ?_ ?_ _ | refine Below.setCell ?_ ?_ _ | refine Below.drew ?_ | (simp; done) | (have hbz := hb.size; first | omega | (simp; omega)) | (simp; omega) | omega))).mono ?_; rintro e w' ⟨rfl, hbq⟩; obtain ⟨p, rfl⟩ := ext_of_below hbq; clear hbq) | (go_at_call 96; refine (hN2.out _ (by repeat' (first | exact Below.refl _ _ | with_reducible assumption | refine bext ?_ ?_ _ | refine Below.alloc ?_ ?_ _ | refine Below.setCell ?_ ?_ _ | refine Below.drew ?_ | (simp; done) | (have hbz := hb.size; first | omega | (simp; omega)) | (simp; omega) | omega)) _ (by simp [go_sem])).mono ?_; rintro e w' ⟨rfl, hbq⟩; obtain ⟨p, rfl⟩ := ext_of_below hbq; clear hbq))
                go_roundw
                case rel => exact ⟨j + 1, by omega, by go_num, upto_succ hjall.out (by rw [hst.out]; rfl), (by repeat' (first | exact Below.refl _ _ | with_reducible assumption | refine bext ?_ ?_ _ | refine Below.alloc ?_ ?_ _ | refine Below.setCell ?_ ?_ _ | refine Below.drew ?_ | (simp; done) | (have hbz := hb.size; first | omega | (simp; omega)) | (simp; omega) | omega))⟩
                case measure => simp [intOf]; omega
              · have hN2 := fun W hB c hcell => hN _ (cap - (k + 1)) b _ (l.drop (k + 1)) W hB (by simp; unfold maxLen; omega) ((hc.mono hB).drop (k + 1)) hdd c hcell
                rw [List.length_drop] at hN2 hst
                generalize (findTo (fun n => knows (gd (l.drop (k + 1)) n) id) (l.length - (k + 1))).isSome = r at hN2 hst
                replace hN2 := Lib.hid hN2
                clear hN hdd he
                cases r
                · have hst := Lib.hid hst
                  go_wp2_with (first | (go_at_call 66; refine (hE.out _ (by repeat' (first | exact Below.refl _ _ | with_reducible assumption | refine bext ?_ ?_ _ | refine Below.alloc ?_ ?_ _ | refine Below.setCell ?_ ?_ _ | refine Below.drew ?_ | (simp; done) | (have hbz := hb.size; first | omega | (simp; omega)) | (simp; omega) | omega))).mono ?_; rintro e w' ⟨rfl, hbq⟩; obtain ⟨p, rfl⟩ := ext_of_below hbq; clear hbq) | (go_at_call 96; refine (hN2.out _ (by repeat' (first | exact Below.refl _ _ | with_reducible assumption | refine bext ?_ ?_ _ | refine Below.alloc ?_ ?_ _ | refine Below.setCell ?_ ?_ _ | refine Below.drew ?_ | (simp; done) | (have hbz := hb.size; first | omega | (simp; omega)) | (simp; omega) | omega)) _ (by simp [go_sem])).mono ?_; rintro e w' ⟨rfl, hbq⟩; obtain ⟨p, rfl⟩ := ext_of_below hbq; clear hbq))
                  go_roundw
                  case rel => exact ⟨j + 1, by omega, by go_num, upto_succ hjall.out (by rw [hst.out]; rfl), (by repeat' (first | exact Below.refl _ _ | with_reducible assumption | refine bext ?_ ?_ _ | refine Below.alloc ?_ ?_ _ | refine Below.setCell ?_ ?_ _ | refine Below.drew ?_ | (simp; done) | (have hbz := hb.size; first | omega | (simp; omega)) | (simp; omega) | omega))⟩
                  case measure => simp [intOf]; omega
                · have hno := Lib.hid (show alone l k = false from allTo_false (f := aloneAt l k) j hjl (by rw [hst]; rfl))
                  clear hst
                  go_wp2_with (first | (go_at_call 66; refine (hE.out _ (by repeat' (first | exact Below.refl _ _ | with_reducible assumption | refine bext ?_ ?_ _ | refine Below.alloc ?_ ?_ _ | refine Below.setCell ?_ ?_ _ | refine Below.drew ?_ | (simp; done) | (have hbz := hb.size; first | omega | (simp; omega)) | (simp; omega) | omega))).mono ?_; rintro e w' ⟨rfl, hbq⟩; obtain ⟨p, rfl⟩ := ext_of_below hbq; clear hbq) | (go_at_call 96; refine (hN2.out _ (by repeat' (first | exact Below.refl _ _ | with_reducible assumption | refine bext ?_ ?_ _ | refine Below.alloc ?_ ?_ _ | refine Below.setCell ?_ ?_ _ | refine Below.drew ?_ | (simp; done) | (have hbz := hb.size; first | omega | (simp; omega)) | (simp; omega) | omega)) _ (by simp [go_sem])).mono ?_; rintro e w' ⟨rfl, hbq⟩; obtain ⟨p, rfl⟩ := ext_of_below hbq; clear hbq))
                  go_ret
                  exact ⟨ret_bool (areEnt_no k hlt (by rw [hno.out]; simp)).symm, (by repeat' (first | exact Below.refl _ _ | with_reducible assumption | refine bext ?_ ?_ _ | refine Below.alloc ?_ ?_ _ | refine Below.setCell ?_ ?_ _ | refine Below.drew ?_ | (simp; done) | (have hbz := hb.size; first | omega | (simp; omega)) | (simp; omega) | omega))⟩
            · have hne : ¬ idxInt (entOf l id) = (k : Int) := by
                intro hx
                cases hq : entOf l id with
                | none => rw [hq] at hx; simp only [idxInt] at hx; omega
                | some m => rw [hq] at hx he; simp only [idxInt] at hx; exact he (congrArg some (by omega))
              have hno := Lib.hid (show alone l k = false from allTo_false (f := aloneAt l k) j hjl (by rw [hst]; simp [he]))
              replace hE := Lib.hid hE
              clear hst he
              go_wp2_with (go_at_call 66; refine (hE.out _ (by repeat' (first | exact Below.refl _ _ | with_reducible assumption | refine bext ?_ ?_ _ | refine Below.alloc ?_ ?_ _ | refine Below.setCell ?_ ?_ _ | refine Below.drew ?_ | (simp; done) | (have hbz := hb.size; first | omega | (simp; omega)) | (simp; omega) | omega))).mono ?_; rintro e w' ⟨rfl, hbq⟩; obtain ⟨p, rfl⟩ := ext_of_below hbq; clear hbq)
              go_ret
              exact ⟨ret_bool (areEnt_no k hlt (by rw [hno.out]; simp)).symm, (by repeat' (first | exact Below.refl _ _ | with_reducible assumption | refine bext ?_ ?_ _ | refine Below.alloc ?_ ?_ _ | refine Below.setCell ?_ ?_ _ | refine Below.drew ?_ | (simp; done) | (have hbz := hb.size; first | omega | (simp; omega)) | (simp; omega) | omega))⟩
          · obtain rfl : j = (gd l k).sub.length := by omega
            have hyes := Lib.hid (show alone l k = true from allTo_true hjall.out)
            go_wp2_with fail
            go_roundw
            case rel => exact ⟨k + 1, by omega, by go_num, upto_succ (f := fun i => entAt l i && alone l i) hall.out (by simp only [ho.out, hyes.out]; rfl), hbq⟩
            case measure => simp [intOf]; omega
    · obtain rfl : k = l.length := by omega
      have he := Lib.hid (areEnt_end hall.out)
      go_wp2_with fail
      go_ret
      exact ⟨ret_bool (by rw [he.out]; simp; omega), hb⟩
end Go.Proofs.YteainpflmofjaaaDoor
