/- Headings seen from one, by the program (the walk). No condition but sizes. -/
import Derived.Test.YtbkkaibjenofiaaSw23
import Derived.Test.YtbkkaibjenofiaaSh23
import Derived.Sort.OwnSortedInts
namespace Go.Proofs.Ytbkkaibjenofiaa
open Go.RowKit
theorem addI_yes {S : List Int} {t : Int} (h : hasI S t = true) : addI S t = S := by simp [addI, h]
theorem addI_no {S : List Int} {t : Int} (h : hasI S t = false) : addI S t = S ++ [t] := by simp [addI, h]
theorem Heads.pos {n : Int} {S : List Int} (h : Heads n S) : 0 < S.length := by
  obtain ⟨-, R, rfl⟩ := h
  simp
theorem own_at {W : World} {lo : Nat} {e : TypeId} {v : Value} {S : List Int} (h : Own W lo e IntE.enc 1 v S) (hp : 0 < S.length) : ∃ g cap, v = .slice (some ⟨g, 0, none⟩) S.length cap ∧ lo ≤ g ∧ g < W.heap.size ∧ S.length ≤ cap ∧ cap ≤ maxLen ∧ Cells W IntE.enc 1 (some ⟨g, 0, none⟩) g 0 S := by
  obtain ⟨a', cap', b', off', hv', -, -, hcc⟩ := h.sl IntE.len
  obtain ⟨hlen, hn | ⟨g, cap, cur, hv, hlo, hg, hc, hm, hsz, ht⟩⟩ := h
  · omega
  · rw [hv] at hv'
    injection hv' with e1 _ _
    obtain rfl := e1
    have e2 := (hcc 0 hp).1
    injection e2 with e2
    injection e2 with e3 e4
    subst e3 e4
    exact ⟨g, cap, hv, hlo, (Array.getElem?_eq_some_iff.1 hg).1, hc, hm, hcc⟩
/-- a slice that reads as l and lies in memory of the call's own, behind one cell -/
def TailOwn (w : World) (lo : Nat) (v : Value) (l : List Int) : Prop := (l = [] ∧ (∃ a c, v = .slice a 0 c ∧ c ≤ maxLen) ∧ ∀ g, v.ownBlock = some g → lo ≤ g ∧ g < w.heap.size) ∨
  ∃ x g cap, 1 < cap ∧ v = .slice (some ⟨g, 1, none⟩) l.length (cap - 1) ∧ Own w lo 3 IntE.enc 1 (.slice (some ⟨g, 0, none⟩) (l.length + 1) cap) (x :: l)
theorem TailOwn.bounds {w : World} {lo : Nat} {v : Value} {l : List Int} (h : TailOwn w lo v l) : ∀ g, v.ownBlock = some g → lo ≤ g ∧ g < w.heap.size := by
  rcases h with ⟨-, -, h⟩ | ⟨x, g, cap, h1, rfl, h⟩
  · exact h
  · intro q hq
    obtain rfl : g = q := Option.some.inj hq
    exact World.ownsRow.lt h g rfl
theorem TailOwn.mono {w w' : World} {lo : Nat} {v : Value} {l : List Int} (h : TailOwn w lo v l) (hb : Below w.heap.size w w') : TailOwn w' lo v l := by
  rcases h with ⟨h1, h2, h⟩ | ⟨x, g, cap, h1, h2, h⟩
  · exact .inl ⟨h1, h2, fun g hg => ⟨(h g hg).1, Nat.lt_of_lt_of_le (h g hg).2 hb.size⟩⟩
  · exact .inr ⟨x, g, cap, h1, h2, h.mono hb⟩
theorem TailOwn.sl {w : World} {lo : Nat} {v : Value} {l : List Int} (h : TailOwn w lo v l) (_ : ∀ x, (IntE.enc x).length = 1) : Sl w IntE.enc 1 v l := by
  rcases h with ⟨rfl, ⟨a, c, rfl, hc⟩, -⟩ | ⟨x, g, cap, h1, rfl, h⟩
  · exact ⟨a, c, 0, 0, rfl, Nat.zero_le _, hc, fun i hi => absurd hi (by simp)⟩
  · obtain ⟨g', cap', hv, -, hg, hl, hm, hc⟩ := own_at h (by simp)
    injection hv with e1 _ e3
    injection e1 with e1
    injection e1 with e1 _
    subst e1 e3
    rw [List.length_cons] at hl
    refine ⟨_, _, g, 1, rfl, by omega, by omega, fun i hi => ?_⟩
    obtain ⟨-, h2, h3⟩ := hc (i + 1) (by simp; omega)
    refine ⟨rfl, h2, fun j u hu => ?_⟩
    have h4 := h3 j u (by simpa [gd] using hu)
    rw [show 1 + i * 1 + j = 0 + (i + 1) * 1 + j by omega]
    exact h4
def RetSn (w : World) (l : List Int) (ok : Bool) (e : Ending) (w' : World) : Prop := ∃ v, e = .returned (.tuple #[v, .bool ok]) ∧ TailOwn w' w.heap.size v l ∧ Below w.heap.size w w'
theorem own_apart {W : World} {lo : Nat} {e : TypeId} {v : Value} {S : List Int} (h : Own W lo e IntE.enc 1 v S) (hp : 0 < S.length) {cb : Nat} (hcb : W.heap.size ≤ cb) : v.ownBlock ≠ some cb := by
  obtain ⟨g, cap, rfl, -, hg, -⟩ := own_at h hp
  intro e
  obtain rfl : g = cb := Option.some.inj e
  omega
theorem containsHasI_c (v : Value) (l : List Int) (n : Int) (w : World) (h : Sl w IntE.enc 1 v l) : Calls Try.prog 63 #[v, .int .i64 n] w fun e w' => e = .returned (.bool (hasI l n)) ∧ w = w' := containsInt_c v l n w h
theorem slices_Sort_int_none' (p : Option Addr) (cap : Nat) (w : World) : Calls Try.prog 80 #[.slice p 0 cap] w fun e w' => e = .returned (.tuple #[]) ∧ w = w' := (slices_Sort_int_none p cap w).mono fun _ _ h => ⟨h.1, h.2.symm⟩
theorem flat_int (l : List Int) : l.flatMap IntE.enc = l.map (Value.int .i64) := by
  induction l with
  | nil => rfl
  | cons x l ih => rw [List.flatMap_cons, ih]; rfl
open Go.Sort in
theorem sortTail_c {w : World} {lo g cap : Nat} {x : Int} {R : List Int} (h : Own w lo 3 IntE.enc 1 (.slice (some ⟨g, 0, none⟩) (R.length + 1) cap) (x :: R)) (h1 : 1 < cap) (hl : R.length < 10000000) : Calls Try.prog 80 #[.slice (some ⟨g, 1, none⟩) R.length (cap - 1)] w fun e w' => e = .returned (.tuple #[]) ∧ TailOwn w' lo (.slice (some ⟨g, 1, none⟩) R.length (cap - 1)) (sortI R) ∧ w.grownBy w' (some g) := by
  have hlen : (sortI R).length = R.length := by simp [sortI]
  obtain ⟨-, hgz⟩ := World.ownsRow.lt h g rfl
  have hcell : ∀ j, j < R.length → w.cell? ⟨g, 1 + j, none⟩ = some (.int .i64 (R.toArray[j]!)) ∧ w.frozen? ⟨g, 1 + j, none⟩ = false := fun j hj => by
    refine ⟨?_, World.ownsRow.frozenAt h _⟩
    rw [World.ownsRow.cellAt h (1 + j) (by simp; omega), flat_int, Nat.add_comm]
    simp [hj]
  have H := slices_Sort_int g 1 (cap - 1) R w (fun j hj => hcell j (by simpa using hj)) hgz (by omega)
  refine H.mono ?_
  rintro e w' ⟨rfl, n, os, rfl⟩
  obtain ⟨-, hn | ⟨g', cap', cur, hv, hlo, hg, hc, hm, hsz, ht⟩⟩ := h
  · cases hn.1
  · injection hv with e1 e2 e3
    injection e1 with e1
    injection e1 with e1 _
    subst e1 e3
    have hb2 : (grow (putRow (Value.int .i64) (Sort.ahead w n) g 1 (sortI R).toArray) os).heap[g]? = some (.cells (putCells (Value.int .i64) 1 (sortI R).toArray cur) 3 (0, 0)) := by
      rw [heap_grow_old _ _ (by simpa using hgz)]
      simp [putRow, mapBlock, Sort.ahead, Array.getElem?_modify, hg, onCells]
    refine ⟨rfl, .inr ⟨x, g, cap, h1, by rw [hlen], ?_⟩, ?_⟩
    · refine ⟨by rw [flat_int]; simp, .inr ⟨g, cap, _, by rw [List.length_cons, hlen], hlo, hb2, by simpa [hlen] using hc, hm, by simp [putCells, hsz], ?_⟩⟩
      rw [flat_int] at ht ⊢
      have hcs : R.length + 1 ≤ cur.size := by rw [hsz]; simp at hc; omega
      have hx : cur[0]? = some (.int .i64 x) := by
        have hx := congrArg (fun L => L[0]?) ht
        simpa using hx
      apply List.ext_getElem?
      intro j
      rcases j with _ | q
      · obtain ⟨hz, hx⟩ := Array.getElem?_eq_some_iff.1 hx
        simp [putCells, hz, hx]
      · by_cases hq : q < R.length
        · rw [List.getElem?_take_of_lt (by simp; omega), Array.getElem?_toList]
          simp [putCells, hlen, hq, show q + 1 < cur.size by omega, show q + 1 < 1 + R.length by omega]
        · rw [List.getElem?_take_eq_none (by simp; omega), List.getElem?_eq_none (by simp; omega)]
    · refine ⟨rfl, rfl, rfl, by simp, fun k hk hne => ?_⟩
      rw [heap_grow_old _ _ (by simpa using hk)]
      have : g ≠ k := fun e => hne (by rw [e])
      simp [putRow, mapBlock, Sort.ahead, Array.getElem?_modify, this]
theorem snI_ways (l : List Hdg) (n st : Int) : (isHd l n = false ∧ isSn l n st = false) ∨ (isHd l n = true ∧ inB st 0 9 = false ∧ isSn l n st = false) ∨ (isHd l n = true ∧ inB st 0 9 = true ∧ isSn l n st = true) := by
  unfold isSn
  cases isHd l n <;> cases inB st 0 9 <;> simp
set_option maxHeartbeats 8000000 in
set_option maxRecDepth 100000 in
theorem seenFrom_c (v : Value) (l : List Hdg) (n st : Int) (w : World) (h : Sl w Hdg.enc 4 v l) (hd : Hdg.Deep w l) (hs : ∀ i, i < l.length → (gd l i).Fits) : Calls Try.prog 28 #[v, .int .i64 n, .int .i64 st] w (RetSn w (snR l n st) (isSn l n st)) := by
  have HA := Lib.hid (fun W (hB : Below w.heap.size w W) => isHeading_c v l n W (h.mono hB) (hd.mono hB) hs)
  have HT := Lib.hid (fun m W (hB : Below w.heap.size w W) => headingAt_c v l m W (h.mono hB))
  have HD := Lib.hid hd
  clear hd
  obtain ⟨a, cap, b, off, rfl, hlc, hm, hc⟩ := h
  obtain ⟨inf, hi, hz0, hz1, hz2⟩ := info_parts (show (Try.prog.info? 3).map (fun i => (i.zero, i.size, i.bytes)) = some (some (.int .i64 0), 1, 8) by kernel_rfl)
  unfold maxLen at hm
  have hY := Lib.hid (@snR_sort l n st)
  have hN := Lib.hid (@snR_no l n st)
  have hP := Lib.hid (@sn_parts l n st)
  have hway := snI_ways l n st
  generalize snR l n st = R at hY hN ⊢
  generalize isSn l n st = gd' at hway hY hN hP ⊢
  generalize isHd l n = ok at hway HA
  have HL := Lib.hid (within_c st 0 9)
  generalize inB st 0 9 = q at hway HL
  rcases hway with ⟨rfl, rfl⟩ | ⟨rfl, rfl, rfl⟩ | ⟨rfl, rfl, rfl⟩
  iterate 2
    · rw [hN.out rfl]
      clear hY hN hP
      go_enter Try.func28, Try.ntmps28
      go_wp2_with (first | (go_at_call 52; refine (HA.out _ (by repeat' (first | exact Below.refl _ _ | with_reducible assumption | refine bext ?_ ?_ _ | refine Below.alloc ?_ ?_ _ | refine Below.setCell ?_ ?_ _ | refine Below.drew ?_ | (simp; done) | (have hbz := hb.size; first | omega | (simp; omega)) | (simp; omega) | omega))).mono ?_; rintro e w' ⟨rfl, hbq⟩; obtain ⟨p, rfl⟩ := ext_of_below hbq; clear hbq) | (go_at_call 70; refine (HL.out _).mono ?_; rintro e w' ⟨rfl, rfl⟩))
      go_ret2
      exact ⟨_, rfl, .inl ⟨rfl, ⟨_, _, rfl, by simp [maxLen]⟩, fun g hg => by cases hg⟩, (by repeat' (first | exact Below.refl _ _ | with_reducible assumption | refine bext ?_ ?_ _ | refine Below.alloc ?_ ?_ _ | refine Below.setCell ?_ ?_ _ | refine Below.drew ?_ | (simp; done) | (have hbz := hb.size; first | omega | (simp; omega)) | (simp; omega) | omega))⟩
  · rw [hY.out rfl]
    obtain ⟨hA0, hn0, hst0, hst9⟩ := hP.out rfl
    have hA := Lib.hid hA0
    have hn := Lib.hid hn0
    clear hA0 hn0 hY hN hP
    obtain ⟨m, rfl⟩ : ∃ m : Nat, st = (m : Int) := ⟨st.toNat, by omega⟩
    have hm9 : m ≤ 9 := by omega
    rw [Int.toNat_natCast]
    obtain ⟨Rf, hRf⟩ : ∃ Rf, Rf = sortI ((snI l n m).drop 1) := ⟨_, rfl⟩
    rw [← hRf]
    replace hRf := Lib.hid hRf
    have hF := Lib.hid (show snI l n m = rnds addI (seeOf l) [n] m from rfl)
    clear hst0
    go_enter Try.func28, Try.ntmps28
    go_wp2_with (first | (go_at_call 52; refine (HA.out _ (by repeat' (first | exact Below.refl _ _ | with_reducible assumption | refine bext ?_ ?_ _ | refine Below.alloc ?_ ?_ _ | refine Below.setCell ?_ ?_ _ | refine Below.drew ?_ | (simp; done) | (have hbz := hb.size; first | omega | (simp; omega)) | (simp; omega) | omega))).mono ?_; rintro e w' ⟨rfl, hbq⟩; obtain ⟨p, rfl⟩ := ext_of_below hbq; clear hbq) | (go_at_call 70; refine (HL.out _).mono ?_; rintro e w' ⟨rfl, rfl⟩))
    refine wpAt fun W2 e2 => ?_
    have B2 : Below w.heap.size w W2 := by rw [e2]; exact (by repeat' (first | exact Below.refl _ _ | with_reducible assumption | refine bext ?_ ?_ _ | refine Below.alloc ?_ ?_ _ | refine Below.setCell ?_ ?_ _ | refine Below.drew ?_ | (simp; done) | (have hbz := hb.size; first | omega | (simp; omega)) | (simp; omega) | omega))
    have O2 := Lib.hid (show Own W2 w.heap.size 3 IntE.enc 1 (.slice (some ⟨w.heap.size + p.os.size, 0, none⟩) 1 1) [n] by rw [e2]; exact Own.made1 (by simp) (by simp) n)
    clear e2 HA HL
    go_loopw [8, 25] (fun sv kv wr => ∃ k : Nat, k ≤ m ∧ kv = .int .i64 k ∧ Hid (Own wr w.heap.size 3 IntE.enc 1 sv (rnds addI (seeOf l) [n] k)) ∧ Below w.heap.size w wr) (fun _ kv _ => m - (intOf kv).toNat)
    case atStart => exact ⟨0, Nat.zero_le _, rfl, O2, B2⟩
    case round =>
      obtain ⟨k, hk, rfl, hS, hb⟩ := hrel
      clear O2 B2
      have hHd := Lib.hid (rnds_keep (P := Heads n) (fun S t h => addI_heads S t h) (seeOf l) (⟨by simp, [], rfl⟩ : Heads n [n]) k)
      by_cases hlt : k < m
      · have hsm := rnds_small8 addI_len hA.out n (k := k) (by omega)
        have hst := Lib.hid (rnds_stands addI_adds hA.out (start_stands hn.out) k)
        have hnx := Lib.hid (show rnds addI (seeOf l) [n] (k + 1) = rndR addI (seeOf l) (rnds addI (seeOf l) [n] k) (rnds addI (seeOf l) [n] k).length from rfl)
        generalize rnds addI (seeOf l) [n] k = S at hS hsm hst hnx hHd
        have hpos := Heads.pos hHd.out
        have HW := Lib.hid (cloneInt_c _ S _ (hS.out.sl IntE.len) (by omega))
        have hap := Lib.hid (fun cb (h : wr.heap.size ≤ cb) => own_apart hS.out hpos h)
        go_wp2_with fail
        refine HW.out.mono ?_
        rintro e w5 ⟨v5, rfl, o5, b5⟩
        have B5 := btrans hb b5
        replace hS := Lib.hid (hS.out.mono b5)
        obtain ⟨cb, ccap, rfl, hcb, -, hcl, hcm, hcc⟩ := own_at o5 hpos
        unfold maxLen at hcm
        have hne := Lib.hid (hap.out cb hcb)
        replace hcc := Lib.hid hcc
        clear HW b5 o5 hb hap
        go_wp2_with fail
        go_loopw [8, 30] (fun sv iv wr => ∃ i : Nat, i ≤ S.length ∧ iv = .int .i64 i ∧ Hid (Own wr w.heap.size 3 IntE.enc 1 sv (rndR addI (seeOf l) S i)) ∧ Hid (Cells wr IntE.enc 1 (some ⟨cb, 0, none⟩) cb 0 S) ∧ Hid (sv.ownBlock ≠ some cb) ∧ Below w.heap.size w wr) (fun _ iv _ => S.length - (intOf iv).toNat)
        case atStart => exact ⟨0, Nat.zero_le _, rfl, hS, hcc, hne, B5⟩
        case round =>
          obtain ⟨i, hii, rfl, hN, hcc, hne, hb⟩ := hrel
          clear B5 hS
          by_cases hil : i < S.length
          · obtain ⟨-, hbw, c0⟩ := IntE.at hcc.out i hil
            rw [Nat.zero_add] at c0
            obtain ⟨g, hgl, hg⟩ := hst.out _ (mem_gd.2 ⟨i, hil, rfl⟩)
            have hTg := (see_parts hA.out hgl).1
            have hnx2 := Lib.hid (show rndR addI (seeOf l) S (i + 1) = innR addI (gd l g).sub (rndR addI (seeOf l) S i) (gd l g).sub.length by rw [rndR, seeOf_at hg])
            have hsm3 := Lib.hid (fun j (hj : j ≤ 4) => inn_small addI_len hA.out hsm hil hj (gd l g).sub)
            have HF := fun W (hB : Below wr.heap.size wr W) => HT.out (gd S i) W (btrans hb hB)
            rw [hg, show idxInt (some g) = (g : Int) from rfl] at HF
            replace HF := Lib.hid HF
            have hgat := Lib.hid (fun W (hB : Below wr.heap.size wr W) => (Hdg.at (hc.mono (btrans hb hB)) g hgl))
            obtain ⟨rfl, -⟩ := Hdg.at hc g hgl
            obtain ⟨gb, goff, hgl1, hgl2, hgc⟩ := Hdg.at' (HD.out g hgl)
            clear hg
            generalize (gd l g).a = ga at *
            generalize (gd l g).cap = gcap at *
            generalize (gd l g).sub = T at *
            generalize gd S i = x at c0 HF
            generalize rndR addI (seeOf l) S i = N at hN hnx2 hsm3
            go_wp2_with fail
            refine (HF.out _ (Below.refl _ _)).mono ?_
            rintro e w8 ⟨rfl, b8⟩
            obtain ⟨-, hbw2, -, -, -, d3⟩ := hgat.out _ b8
            have B8 := btrans hb b8
            replace hN := Lib.hid (hN.out.mono b8)
            replace hcc := Lib.hid (hcc.out.mono b8)
            replace hgc := Lib.hid (hgc)
            clear hgat HF c0 hb b8
            go_wp2_with fail
            go_loopw [8, 42] (fun sv jv wr => ∃ j : Nat, j ≤ T.length ∧ jv = .int .i64 j ∧ Hid (Own wr w.heap.size 3 IntE.enc 1 sv (innR addI T N j)) ∧ Hid (Cells wr IntE.enc 1 (some ⟨cb, 0, none⟩) cb 0 S) ∧ Hid (sv.ownBlock ≠ some cb) ∧ Below w.heap.size w wr) (fun _ jv _ => T.length - (intOf jv).toNat)
            case atStart => exact ⟨0, Nat.zero_le _, rfl, hN, hcc, hne, B8⟩
            case round =>
              obtain ⟨j, hj, rfl, hN2, hcc, hne, hb⟩ := hrel
              clear B8 hN
              by_cases hjl : j < T.length
              · obtain ⟨rfl, hbw3, t0⟩ := IntE.at (hgc.out.mono hb) j hjl
                have hsm4 := hsm3.out j (by omega)
                have hnx3 := Lib.hid (show innR addI T N (j + 1) = addI (innR addI T N j) (gd T j) from rfl)
                obtain ⟨-, hcbz, -⟩ := hcc.out 0 hpos
                generalize gd T j = t at *
                generalize innR addI T N j = N3 at *
                have HC := Lib.hid (containsHasI_c _ N3 t wr (hN2.out.sl IntE.len))
                have hzb := hb.size
                cases hq : hasI N3 t
                · rw [hq] at HC
                  replace HC := Lib.hid HC.out
                  have hun := Lib.hid (hnx3.out.trans (addI_no hq))
                  clear hq hnx3
                  go_wp2_with (first | (go_at_call 63; refine (HC.out).mono ?_; rintro e w' ⟨rfl, rfl⟩) | (at_builtin; refine wpList_pushAt IntE.len intE_one rfl _ _ 33 rfl w.heap.size 3 inf _ 8 Try.underlying33 hi hz0 hz1 hz2 rfl (by omega) _ N3 rfl (hN2.out.mono (by repeat' (first | exact Below.refl _ _ | with_reducible assumption | refine bext ?_ ?_ _ | refine Below.alloc ?_ ?_ _ | refine Below.setCell ?_ ?_ _ | refine Below.drew ?_ | (simp; done) | (have hbz := hb.size; first | omega | (simp; omega)) | (simp; omega) | omega))) _ 1 t rfl (fun j u hu => new_cells _ [.int .i64 t] _ _ (by simp) j u hu) (by unfold maxLen; omega) (by omega) (by simp; omega) ?_))
                  intro v' w3 ho3 hg3 hat3
                  have hb3 := below_push (lo := w.heap.size) (B := w.heap.size) (a := w) (hb.trans ((below_alloc _ _).mono hb.size)) (hN2.out.mono (by repeat' (first | exact Below.refl _ _ | with_reducible assumption | refine bext ?_ ?_ _ | refine Below.alloc ?_ ?_ _ | refine Below.setCell ?_ ?_ _ | refine Below.drew ?_ | (simp; done) | (have hbz := hb.size; first | omega | (simp; omega)) | (simp; omega) | omega))) hg3 (Nat.le_refl _) (by simp; omega)
                  have hc3 := Cells.grown (hcc.out.mono (below_alloc _ _)) hg3 (fun e => hne.out e.symm)
                  have hn3 : v'.ownBlock ≠ some cb := by
                    rcases hat3 with h | h
                    · rw [h]; exact hne.out
                    · rw [h]; intro e; have h9 := Option.some.inj e; omega
                  go_wp2_with fail
                  go_roundw
                  case rel => exact ⟨j + 1, by omega, by go_num, by rw [hun.out]; exact ho3, hc3, hn3, hb3⟩
                  case measure => simp [intOf]; omega
                · rw [hq] at HC
                  replace HC := Lib.hid HC.out
                  have hun := Lib.hid (hnx3.out.trans (addI_yes hq))
                  clear hq hnx3
                  go_wp2_with (go_at_call 63; refine (HC.out).mono ?_; rintro e w' ⟨rfl, rfl⟩)
                  go_roundw
                  case rel => exact ⟨j + 1, by omega, by go_num, by rw [hun.out]; exact hN2.out, hcc.out, hne.out, hb⟩
                  case measure => simp [intOf]; omega
              · obtain rfl : j = T.length := by omega
                go_wp2_with fail
                go_roundw
                case rel => exact ⟨i + 1, by omega, by go_num, by rw [hnx2.out]; exact hN2.out, hcc.out, hne.out, hb⟩
                case measure => simp [intOf]; omega
          · obtain rfl : i = S.length := by omega
            go_wp2_with fail
            go_roundw
            case rel => exact ⟨k + 1, by omega, by go_num, by rw [hnx.out]; exact hN.out, hb⟩
            case measure => simp [intOf]; omega
      · obtain rfl : k = m := by omega
        have hsm := rnds_small addI_len hA.out n hm9
        generalize rnds addI (seeOf l) [n] k = S at hS hsm hF hHd
        obtain ⟨-, R', rfl⟩ := hHd.out
        obtain ⟨g, scap, rfl, hlo, hgz, hsl, hsm2, -⟩ := own_at hS.out (by simp)
        unfold maxLen at hsm2
        rw [List.length_cons] at hsl hS hsm ⊢
        have hun := Lib.hid (show Rf = sortI R' by rw [hRf.out, hF.out]; rfl)
        by_cases hc1 : scap = 1
        · subst hc1
          obtain rfl : R' = [] := List.eq_nil_of_length_eq_zero (by omega)
          go_wp2_with (go_at_call 80; refine (slices_Sort_int_none' _ _ _).mono ?_; rintro e w' ⟨rfl, rfl⟩)
          go_ret2
          rw [hun.out]
          exact ⟨_, rfl, .inl ⟨by simp [sortI], ⟨_, _, rfl, by simp [maxLen]⟩, fun q hq => by (obtain rfl : g = q := Option.some.inj hq); exact ⟨hlo, hgz⟩⟩, hb⟩
        · have HSo := Lib.hid (sortTail_c hS.out (by omega) (by omega))
          go_wp2_with fail
          refine HSo.out.mono ?_
          rintro e w8 ⟨rfl, o8, g8⟩
          have B8 := Lib.hid (hb.grown g8 hb.size (fun q hq => by have := Option.some.inj hq; omega))
          replace hun := Lib.hid hun.out
          replace o8 := Lib.hid o8
          clear g8 hS hF hHd HSo
          go_wp2_with fail
          go_ret2
          rw [hun.out]
          exact ⟨_, rfl, o8.out, B8.out⟩
end Go.Proofs.Ytbkkaibjenofiaa
