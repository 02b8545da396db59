/- Headings seen from one, by the reference (the walk). No condition but sizes. -/
import Derived.Test.YtbkkaibjenofiaaPt23
import Derived.Test.YtbkkaibjenofiaaSv23
import Derived.Test.YtbkkaibjenofiaaDu23
namespace Go.Proofs.Ytbkkaibjenofiaa
open Go.RowKit
theorem Own.made1 {W : World} {lo g : Nat} {e : TypeId} (hg : g = W.heap.size) (h : lo ≤ W.heap.size) (x : Int) : Own (W.alloc (.cells #[.int .i64 x] e)) lo e IntE.enc 1 (.slice (some ⟨g, 0, none⟩) 1 1) [x] := by
  subst hg
  exact ⟨rfl, .inr ⟨W.heap.size, 1, _, rfl, h, heap_alloc_new W _, Nat.le_refl _, by simp [maxLen], rfl, rfl⟩⟩
theorem Cells.grown {α : Type} [Inhabited α] {W W' : World} {enc : α → List Value} {k b off : Nat} {a : Option Addr} {l : List α} {row : Option Nat} (h : Cells W enc k a b off l) (hg : W.grownBy W' row) (hne : some b ≠ row) : Cells W' enc k a b off l := fun i hi =>
  ⟨(h i hi).1, Nat.lt_of_lt_of_le (h i hi).2.1 hg.size, fun j u hu => cellGrown ((h i hi).2.2 j u hu) hg hne⟩
theorem empty_apart {W : World} {lo g : Nat} {e : TypeId} {a : Option Addr} {b off : Nat} {S : List Int} (h : Own W lo e IntE.enc 1 (.slice (some ⟨g, 0, none⟩) 0 0) ([] : List Int)) (hc : Cells W IntE.enc 1 a b off S) (hS : 0 < S.length) : (Value.slice (some ⟨g, 0, none⟩) 0 0).ownBlock ≠ some b := by
  intro e
  obtain rfl : g = b := Option.some.inj e
  obtain ⟨-, hn | ⟨g', cap, cur, hv, hlo, hg, hcc, hm, hsz, ht⟩⟩ := h
  · cases hn.1
  · injection hv with h1 h2 h3
    have h4 := congrArg Addr.block (Option.some.inj h1)
    dsimp only at h4
    subst h4
    subst h3
    have := (hc 0 hS).2.2 0 _ rfl
    rw [cell_of_row W g _ cur _ (0, 0) hg] at this
    rw [Array.getElem?_eq_none (by omega)] at this
    cases this
theorem sn_ways (l : List Hdg) (n st : Int) : (areHd l = false ∧ isSn l n st = false) ∨ (areHd l = true ∧ idxInt (hdIdx l n) < 0 ∧ isSn l n st = false) ∨
    (areHd l = true ∧ ¬ idxInt (hdIdx l n) < 0 ∧ inB st 0 9 = false ∧ isSn l n st = false) ∨ (areHd l = true ∧ ¬ idxInt (hdIdx l n) < 0 ∧ inB st 0 9 = true ∧ isSn l n st = true) := by
  unfold isSn isHd
  cases areHd l
  · exact .inl ⟨rfl, rfl⟩
  · rcases hd_way (l := l) (n := n) with ⟨h3, h4⟩ | ⟨h3, h4⟩
    · exact .inr (.inl ⟨rfl, h4, by rw [h3]; rfl⟩)
    · cases inB st 0 9
      · exact .inr (.inr (.inl ⟨rfl, h4, rfl, by rw [h3]; rfl⟩))
      · exact .inr (.inr (.inr ⟨rfl, h4, rfl, by rw [h3]; rfl⟩))
set_option maxHeartbeats 8000000 in
set_option maxRecDepth 100000 in
theorem specSeenFrom_c (v : Value) (l : List Hdg) (n st : Int) (w : World) (h : Sl w Hdg.enc 4 v l) (hd : Hdg.Deep w l) (hs : ∀ i, i < l.length → (gd l i).Fits) : Calls Try.prog 29 #[v, .int .i64 n, .int .i64 st] w (RetSlB w 3 IntE.enc 1 (snR l n st) (isSn l n st)) := by
  have HA := Lib.hid (fun W (hB : Below w.heap.size w W) => l23Good_c v l W (h.mono hB) (hd.mono hB) hs)
  have HT := Lib.hid (fun m W (hB : Below w.heap.size w W) => l23Find_c v l m W (h.mono hB))
  have HD := Lib.hid hd
  clear hd
  obtain ⟨a, cap, b, off, rfl, hlc, hm, hc⟩ := h
  obtain ⟨inf, hi, hz0, hz1, hz2⟩ := info_parts (show (Try.prog.info? 3).map (fun i => (i.zero, i.size, i.bytes)) = some (some (.int .i64 0), 1, 8) by kernel_rfl)
  unfold maxLen at hm
  have HT1 := Lib.hid (HT.out n)
  have hY := Lib.hid (@snR_yes l n st)
  have hN := Lib.hid (@snR_no l n st)
  have hP := Lib.hid (@sn_parts l n st)
  have hway := sn_ways l n st
  generalize snR l n st = R at hY hN ⊢
  generalize isSn l n st = gd' at hway hY hN hP ⊢
  generalize hok : areHd l = ok at hway HA
  generalize idxInt (hdIdx l n) = r at hway HT1
  have HL := Lib.hid (l1In_c st 0 9)
  generalize inB st 0 9 = q at hway HL
  rcases hway with ⟨rfl, rfl⟩ | ⟨rfl, h2, rfl⟩ | ⟨rfl, h2, rfl, rfl⟩ | ⟨rfl, h2, rfl, rfl⟩
  iterate 3
    · rw [hN.out rfl]
      clear hok hY hN hP
      go_enter Try.func29, Try.ntmps29
      go_wp2_with (first | (go_at_call 54; refine (HA.out _ (by repeat' (first | exact Below.refl _ _ | with_reducible assumption | refine bext ?_ ?_ _ | refine Below.alloc ?_ ?_ _ | refine Below.setCell ?_ ?_ _ | refine Below.drew ?_ | (simp; done) | (have hbz := hb.size; first | omega | (simp; omega)) | (simp; omega) | omega))).mono ?_; rintro e w' ⟨rfl, hbq⟩; obtain ⟨p, rfl⟩ := ext_of_below hbq; clear hbq) | (go_at_call 55; refine (HT1.out _ (by repeat' (first | exact Below.refl _ _ | with_reducible assumption | refine bext ?_ ?_ _ | refine Below.alloc ?_ ?_ _ | refine Below.setCell ?_ ?_ _ | refine Below.drew ?_ | (simp; done) | (have hbz := hb.size; first | omega | (simp; omega)) | (simp; omega) | omega))).mono ?_; rintro e w' ⟨rfl, rfl⟩) | (go_at_call 81; refine (HL.out _).mono ?_; rintro e w' ⟨rfl, rfl⟩))
      go_ret2
      exact ⟨_, rfl, (Own.empty w _ _ _ _ (Nat.le_refl _)).mono (below_ext _ _), (by repeat' (first | exact Below.refl _ _ | with_reducible assumption | refine bext ?_ ?_ _ | refine Below.alloc ?_ ?_ _ | refine Below.setCell ?_ ?_ _ | refine Below.drew ?_ | (simp; done) | (have hbz := hb.size; first | omega | (simp; omega)) | (simp; omega) | omega))⟩
  · rw [hY.out rfl]
    obtain ⟨hA0, hn0, hst0, hst9⟩ := hP.out rfl
    have hA := Lib.hid hA0
    have hn := Lib.hid hn0
    clear hok hA0 hn0 hY hN hP
    obtain ⟨m, rfl⟩ : ∃ m : Nat, st = (m : Int) := ⟨st.toNat, by omega⟩
    have hm9 : m ≤ 9 := by omega
    rw [Int.toNat_natCast]
    have hF := Lib.hid (show snS l n m = rnds putI (seeOf l) [n] m from rfl)
    clear hst0
    go_enter Try.func29, Try.ntmps29
    go_wp2_with (first | (go_at_call 54; refine (HA.out _ (by repeat' (first | exact Below.refl _ _ | with_reducible assumption | refine bext ?_ ?_ _ | refine Below.alloc ?_ ?_ _ | refine Below.setCell ?_ ?_ _ | refine Below.drew ?_ | (simp; done) | (have hbz := hb.size; first | omega | (simp; omega)) | (simp; omega) | omega))).mono ?_; rintro e w' ⟨rfl, hbq⟩; obtain ⟨p, rfl⟩ := ext_of_below hbq; clear hbq) | (go_at_call 55; refine (HT1.out _ (by repeat' (first | exact Below.refl _ _ | with_reducible assumption | refine bext ?_ ?_ _ | refine Below.alloc ?_ ?_ _ | refine Below.setCell ?_ ?_ _ | refine Below.drew ?_ | (simp; done) | (have hbz := hb.size; first | omega | (simp; omega)) | (simp; omega) | omega))).mono ?_; rintro e w' ⟨rfl, rfl⟩) | (go_at_call 81; refine (HL.out _).mono ?_; rintro e w' ⟨rfl, rfl⟩))
    refine wpAt fun W2 e2 => ?_
    have B2 : Below w.heap.size w W2 := by rw [e2]; exact (by repeat' (first | exact Below.refl _ _ | with_reducible assumption | refine bext ?_ ?_ _ | refine Below.alloc ?_ ?_ _ | refine Below.setCell ?_ ?_ _ | refine Below.drew ?_ | (simp; done) | (have hbz := hb.size; first | omega | (simp; omega)) | (simp; omega) | omega))
    have O2 : Own W2 w.heap.size 3 IntE.enc 1 (.slice (some ⟨w.heap.size, 0, none⟩) 0 0) ([] : List Int) := by rw [e2]; exact (Own.empty w _ _ _ _ (Nat.le_refl _)).mono (by repeat' (first | exact Below.refl _ _ | with_reducible assumption | refine bext ?_ ?_ _ | refine Below.alloc ?_ ?_ _ | refine Below.setCell ?_ ?_ _ | refine Below.drew ?_ | (simp; done) | (have hbz := hb.size; first | omega | (simp; omega)) | (simp; omega) | omega))
    have S2 : Own W2 w.heap.size 3 IntE.enc 1 (.slice (some ⟨w.heap.size + 1 + p.os.size, 0, none⟩) 1 1) [n] := by rw [e2]; exact Own.made1 (by simp) (by simp; omega) n
    have T2 := Lib.hid (S2.sl IntE.len)
    replace O2 := Lib.hid O2
    clear e2 HA HT1 HL S2
    go_loopw [9, 10, 11, 12, 13, 14] (fun sv kv _ _ _ _ wr => ∃ k : Nat, k ≤ m ∧ kv = .int .i64 k ∧ Hid (Sl wr IntE.enc 1 sv (rnds putI (seeOf l) [n] k)) ∧ Hid (Own wr w.heap.size 3 IntE.enc 1 (.slice (some ⟨w.heap.size, 0, none⟩) 0 0) ([] : List Int)) ∧ Below w.heap.size w wr) (fun _ kv _ _ _ _ _ => m - (intOf kv).toNat)
    case atStart => exact ⟨0, Nat.zero_le _, rfl, T2, O2, B2⟩
    case round =>
      obtain ⟨k, hk, rfl, hS, hO, hb⟩ := hrel
      by_cases hlt : k < m
      · have hsm := rnds_small8 putI_len hA.out n (k := k) (by omega)
        have hst := Lib.hid (rnds_stands putI_adds hA.out (start_stands hn.out) k)
        have hnx := Lib.hid (show rnds putI (seeOf l) [n] (k + 1) = rndR putI (seeOf l) (rnds putI (seeOf l) [n] k) (rnds putI (seeOf l) [n] k).length from rfl)
        generalize rnds putI (seeOf l) [n] k = S at hS hsm hst hnx
        have HW := Lib.hid (l1Own_c _ S _ hS.out (by omega))
        have hSS := hS
        obtain ⟨sa, scap, sb, soff, rfl, hslc, hsm2, hsc⟩ := hSS.out
        unfold maxLen at hsm2
        go_wp2_with fail
        refine HW.out.mono ?_
        rintro e w5 ⟨v5, rfl, o5, b5⟩
        have B5 := btrans hb b5
        replace hS := Lib.hid (hS.out.mono b5)
        replace hsc := hsc.mono b5
        replace hO := Lib.hid (hO.out.mono b5)
        have T5 := Lib.hid (o5.sl IntE.len)
        clear HW b5 o5 hSS hb T2 O2 B2
        go_wp2_with fail
        go_loopw [11, 12, 13, 14] (fun nv iv _ _ wr => ∃ i : Nat, i ≤ S.length ∧ iv = .int .i64 i ∧ Hid (Sl wr IntE.enc 1 nv (rndR putI (seeOf l) S i)) ∧ Below w5.heap.size w5 wr) (fun _ iv _ _ _ => S.length - (intOf iv).toNat)
        case atStart => exact ⟨0, Nat.zero_le _, rfl, T5, Below.refl _ _⟩
        case round =>
          obtain ⟨i, hii, rfl, hN, hb⟩ := hrel
          by_cases hil : i < S.length
          · obtain ⟨rfl, hbw, c0⟩ := IntE.at (hsc.mono hb) i hil
            obtain ⟨g, hgl, hg⟩ := hst.out _ (mem_gd.2 ⟨i, hil, rfl⟩)
            have hTg := (see_parts hA.out hgl).1
            have hnx2 := Lib.hid (show rndR putI (seeOf l) S (i + 1) = innR putI (gd l g).sub (rndR putI (seeOf l) S i) (gd l g).sub.length by rw [rndR, seeOf_at hg])
            have hsm3 := Lib.hid (fun j (hj : j ≤ 4) => inn_small putI_len hA.out hsm hil hj (gd l g).sub)
            have HF := HT.out (gd S i) wr (btrans B5 hb)
            rw [hg, show idxInt (some g) = (g : Int) from rfl] at HF
            replace HF := Lib.hid HF
            obtain ⟨rfl, hbw2, d0, d1, d2, d3⟩ := Hdg.at (hc.mono (btrans B5 hb)) g hgl
            obtain ⟨gb, goff, hgl1, hgl2, hgc⟩ := Hdg.at' (HD.out g hgl)
            replace hgc := hgc.mono (btrans B5 hb)
            generalize (gd l g).a = ga at *
            generalize (gd l g).cap = gcap at *
            generalize (gd l g).nm = gnm at *
            generalize (gd l g).un = gun at *
            generalize (gd l g).id = gid at *
            generalize (gd l g).sub = T at *
            clear hg
            generalize gd S i = x at c0 HF
            generalize rndR putI (seeOf l) S i = N at hN hnx2 hsm3
            go_wp2_with (go_at_call 55; refine (HF.out).mono ?_; rintro e w' ⟨rfl, rfl⟩)
            refine wpAt fun W6 e6 => ?_
            have B6 : Below wr.heap.size wr W6 := by rw [e6]; exact below_alloc _ _
            have y3 : W6.cell? ⟨wr.heap.size, 3, none⟩ = some (.slice ga T.length gcap) := by rw [e6]; exact new_cells _ [.int .i64 gid, .string gnm, .int .i64 gun, .slice ga T.length gcap] _ _ (by simp) 3 _ rfl
            clear e6
            replace hgc := hgc.mono B6
            have N6 := Lib.hid (hN.out.mono B6)
            have B7 := hb.trans (B6.mono hb.size)
            go_loopw [11, 14] (fun nv jv wr => ∃ j : Nat, j ≤ T.length ∧ jv = .int .i64 j ∧ Hid (Sl wr IntE.enc 1 nv (innR putI T N j)) ∧ Below W6.heap.size W6 wr) (fun _ jv _ => T.length - (intOf jv).toNat)
            case atStart => exact ⟨0, Nat.zero_le _, rfl, N6, Below.refl _ _⟩
            case round =>
              obtain ⟨j, hj, rfl, hN2, hb2⟩ := hrel
              have y3' := cellOn hb2 y3
              by_cases hjl : j < T.length
              · obtain ⟨rfl, hbw3, t0⟩ := IntE.at (hgc.mono hb2) j hjl
                have HP := Lib.hid (l1Put_c _ _ (gd T j) _ hN2.out (Nat.le_trans (hsm3.out j (by omega)) (by omega)))
                have hnx3 := Lib.hid (show innR putI T N (j + 1) = putI (innR putI T N j) (gd T j) from rfl)
                generalize gd T j = t at *
                generalize innR putI T N j = N3 at *
                go_wp2_with fail
                refine HP.out.mono ?_
                rintro e w8 ⟨v8, rfl, o8, b8⟩
                have B8 := hb2.trans (b8.mono hb2.size)
                go_wp2_with fail
                go_roundw
                case rel => exact ⟨j + 1, by omega, by go_num, by rw [hnx3.out]; exact o8, B8⟩
                case measure => simp [intOf]; omega
              · obtain rfl : j = T.length := by omega
                go_wp2_with fail
                go_roundw
                case rel => exact ⟨i + 1, by omega, by go_num, by rw [hnx2.out]; exact hN2.out, B7.trans (hb2.mono B7.size)⟩
                case measure => simp [intOf]; omega
          · obtain rfl : i = S.length := by omega
            go_wp2_with fail
            go_roundw
            case rel => exact ⟨k + 1, by omega, by go_num, by rw [hnx.out]; exact hN.out, hO.out.mono hb, btrans B5 hb⟩
            case measure => simp [intOf]; omega
      · obtain rfl : k = m := by omega
        have hsm := rnds_small putI_len hA.out n hm9
        generalize rnds putI (seeOf l) [n] k = S at hS hsm hF
        have hSS := hS
        obtain ⟨sa, scap, sb, soff, rfl, hslc, hsm2, hsc⟩ := hSS.out
        unfold maxLen at hsm2
        clear T2 O2 B2 hSS
        have hne := Lib.hid (empty_apart hO.out hsc)
        replace hsc := Lib.hid hsc
        go_wp2_with fail
        go_loopw [8, 15] (fun o iv wr => ∃ i : Nat, i ≤ S.length ∧ iv = .int .i64 i ∧ Hid (Own wr w.heap.size 3 IntE.enc 1 o ((S.take i).filter (fun x => x != n))) ∧ Hid (Cells wr IntE.enc 1 sa sb soff S) ∧ Hid (0 < S.length → o.ownBlock ≠ some sb) ∧ Below w.heap.size w wr) (fun _ iv _ => S.length - (intOf iv).toNat)
        case atStart => exact ⟨0, Nat.zero_le _, rfl, by rw [List.take_zero]; exact hO, hsc, hne, hb⟩
        case round =>
          obtain ⟨i, hil, rfl, hO, hsc, hne, hb⟩ := hrel
          by_cases hlt : i < S.length
          · obtain ⟨rfl, hbw, c0⟩ := IntE.at hsc.out i hlt
            have hfl : ((S.take i).filter (fun x => x != n)).length ≤ i := Nat.le_trans (List.length_filter_le _ _) (by simp; omega)
            have hfy := Lib.hid (@filt_yes S (fun x => x != n) i hlt)
            have hfn := Lib.hid (@filt_no S (fun x => x != n) i hlt)
            generalize gd S i = x at *
            generalize (S.take i).filter (fun x => x != n) = F at *
            cases hq : (x != n)
            · have hun := Lib.hid (hfn.out hq)
              clear hfy hfn
              go_wp2_with fail
              go_roundw
              case rel => exact ⟨i + 1, by omega, by go_num, by rw [hun.out]; exact hO.out, hsc.out, hne.out, hb⟩
              case measure => simp [intOf]; omega
            · have hun := Lib.hid (hfy.out hq)
              clear hfy hfn
              have hzb := hb.size
              go_wp2_with (at_builtin; refine wpList_pushAt IntE.len intE_one rfl _ _ 33 rfl w.heap.size 3 inf _ 8 Try.underlying33 hi hz0 hz1 hz2 rfl (by omega) _ F rfl (hO.out.mono (by repeat' (first | exact Below.refl _ _ | with_reducible assumption | refine bext ?_ ?_ _ | refine Below.alloc ?_ ?_ _ | refine Below.setCell ?_ ?_ _ | refine Below.drew ?_ | (simp; done) | (have hbz := hb.size; first | omega | (simp; omega)) | (simp; omega) | omega))) _ 1 x rfl (fun j u hu => new_cells _ [.int .i64 x] _ _ (by simp) j u hu) (by unfold maxLen; omega) (by omega) (by simp; omega) ?_)
              intro v' w3 ho3 hg3 hat3
              have hb3 := below_push (lo := w.heap.size) (B := w.heap.size) (a := w) (hb.trans ((below_alloc _ _).mono hb.size)) (hO.out.mono (by repeat' (first | exact Below.refl _ _ | with_reducible assumption | refine bext ?_ ?_ _ | refine Below.alloc ?_ ?_ _ | refine Below.setCell ?_ ?_ _ | refine Below.drew ?_ | (simp; done) | (have hbz := hb.size; first | omega | (simp; omega)) | (simp; omega) | omega))) hg3 (Nat.le_refl _) (by simp; omega)
              have hc3 := Cells.grown (hsc.out.mono (below_alloc _ _)) hg3 (fun e => hne.out (by omega) e.symm)
              have hn3 : v'.ownBlock ≠ some sb := by
                rcases hat3 with h | h
                · rw [h]; exact hne.out (by omega)
                · rw [h]; intro e; have h9 := Option.some.inj e; omega
              go_wp2_with fail
              go_roundw
              case rel => exact ⟨i + 1, by omega, by go_num, by rw [hun.out]; exact ho3, hc3, fun _ => hn3, hb3⟩
              case measure => simp [intOf]; omega
          · obtain rfl : i = S.length := by omega
            have hun := Lib.hid (show snS l n k = S from hF.out)
            go_wp2_with fail
            go_ret2
            rw [hun.out]
            exact ⟨_, rfl, by rw [← List.take_length (l := S)]; exact hO.out, hb⟩
end Go.Proofs.Ytbkkaibjenofiaa
