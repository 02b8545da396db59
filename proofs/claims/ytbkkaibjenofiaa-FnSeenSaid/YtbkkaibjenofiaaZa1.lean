/- Slices whose elements hold slices, all the call's own: elements picked, an element's slice cut. General. Headings: a heading dropped. By the program and by the reference. No condition but sizes. -/
import Derived.Test.YtbkkaibjenofiaaDf
import Derived.Test.YtbkkaibjenofiaaMv23
import Derived.Test.YtbkkaibjenofiaaDu23
import Derived.Test.YtbkkaibjenofiaaDel
import Derived.Deep.Cut
namespace Go.Proofs.Ytbkkaibjenofiaa
open Go.RowKit
section
variable {α β : Type} [Inhabited α] {tE tI : TypeId} {enc : α → List Value} {K : Nat} {encI : β → List Value} {hv : α → Value} {sub : α → List β}
theorem gd_mem {l : List α} {i : Nat} (h : i < l.length) : gd l i ∈ l := by rw [gd_get h]; exact List.getElem_mem h
/-- picked elements, in the same block -/
theorem NOwn.pick {w w' : World} {lo hi : Nat} {v v' : Value} {l : List α} (h : NOwn w lo hi tE enc K tI encI hv sub v l) (p : Nat → Bool) (ho : Own w' lo tE enc K v' (pickG p (gd l) l.length)) (hb : v'.ownBlock = v.ownBlock) (hg : w.grownBy w' v.ownBlock) :
    NOwn w' lo hi tE enc K tI encI hv sub v' (pickG p (gd l) l.length) := by
  have hs := pickG_sub p l l.length (Nat.le_refl _)
  rw [List.take_length] at hs
  generalize pickG p (gd l) l.length = r at ho hs
  have hat : ∀ i, i < r.length → ∃ m, m < l.length ∧ gd r i = gd l m := fun i hi => by
    obtain ⟨m, hm, e⟩ := List.mem_iff_getElem.1 (hs.subset (gd_mem hi))
    exact ⟨m, hm, by rw [← e, gd_get hm]⟩
  refine ⟨ho, fun b hb' => h.2.1 b (by rw [← hb]; exact hb'), fun i hi => ?_, ?_⟩
  · obtain ⟨m, hm, e⟩ := hat i hi
    rw [e]
    obtain ⟨h1, h2⟩ := h.2.2.1 m hm
    refine ⟨h1.kept hg ?_, fun b hb' => ⟨(h2 b hb').1, by rw [hb]; exact (h2 b hb').2⟩⟩
    cases hbm : (hv (gd l m)).ownBlock with
    | none => exact .inl rfl
    | some b => exact .inr (fun e2 => (h2 b hbm).2 e2.symm)
  · have hp : l.Pairwise (fun x y => ∀ b, (hv x).ownBlock = some b → (hv y).ownBlock ≠ some b) := by
      rw [List.pairwise_iff_getElem]
      intro i j hi hj hij b hb'
      have := h.2.2.2 i j b hij hj (by rw [gd_get hi]; exact hb')
      rwa [gd_get hj] at this
    have hr := hp.sublist hs
    rw [List.pairwise_iff_getElem] at hr
    intro i j b hij hj hb'
    rw [gd_get (show i < r.length by omega)] at hb'
    rw [gd_get hj]
    exact hr i j (by omega) hj hij b hb'
/-- the slice of one element turned, its header with it -/
theorem NOwn.reslice (hk : ∀ x, (enc x).length = K) {w w1 : World} {lo hi : Nat} {g n cap : Nat} {l : List α} (h : NOwn w lo hi tE enc K tI encI hv sub (.slice (some ⟨g, 0, none⟩) n cap) l) (i : Nat) (hi' : i < l.length) (y : α) (j : Nat) (hj : j < K) (u : Value)
    (hy : enc y = (enc (gd l i)).set j u) (hb : (hv y).ownBlock = (hv (gd l i)).ownBlock) (ho : Own w1 lo tI encI 1 (hv y) (sub y)) (hg : w.grownBy w1 (hv (gd l i)).ownBlock) :
    NOwn (w1.setCell ⟨g, i * K + j, none⟩ u) lo hi tE enc K tI encI hv sub (.slice (some ⟨g, 0, none⟩) n cap) (l.set i y) := by
  have hgo : ∀ b, (hv (gd l i)).ownBlock = some b → b ≠ g := fun b hb' e => ((h.2.2.1 i hi').2 b hb').2 (by rw [e]; rfl)
  have h1 : Own w1 lo tE enc K (.slice (some ⟨g, 0, none⟩) n cap) l := h.1.kept hg (by
    refine .inr fun e => ?_
    exact hgo g e.symm rfl)
  have hs : w1.grownBy (w1.setCell ⟨g, i * K + j, none⟩ u) (some g) := only_setCell (World.grownBy.refl _ _) _ rfl _
  have kept2 : ∀ {v : Value} {s : List β}, Own w1 lo tI encI 1 v s → (∀ b, v.ownBlock = some b → b ≠ g) → Own (w1.setCell ⟨g, i * K + j, none⟩ u) lo tI encI 1 v s := fun ho2 hne => ho2.kept hs (by
    cases hbv : Value.ownBlock _ with
    | none => exact .inl rfl
    | some b => exact .inr (fun e => hne b hbv (by injection e)))
  have e1 : ∀ m, m < l.length → m ≠ i → gd (l.set i y) m = gd l m := fun m _ hm => gd_set_ne (Ne.symm hm) y
  refine ⟨h1.store hk i hi' y j hj u hy, h.2.1, fun m hm => ?_, fun a b c hab hb2 => ?_⟩
  · rw [List.length_set] at hm
    by_cases e : m = i
    · subst e
      rw [gd_set_at hi', hb]
      exact ⟨kept2 ho (by rw [hb]; exact hgo), (h.2.2.1 m hm).2⟩
    · rw [e1 m hm e]
      have h2 := h.2.2.1 m hm
      refine ⟨kept2 (h2.1.kept hg ?_) (fun b hbm e3 => (h2.2 b hbm).2 (by rw [e3]; rfl)), h2.2⟩
      cases hbm : (hv (gd l m)).ownBlock with
      | none => exact .inl rfl
      | some b =>
        refine .inr fun e2 => ?_
        rcases Nat.lt_or_gt_of_ne e with hlt | hlt
        · exact h.2.2.2 m i b hlt hi' hbm e2.symm
        · exact h.2.2.2 i m b hlt hm e2.symm hbm
  · rw [List.length_set] at hb2
    have e4 : ∀ m, m < l.length → (hv (gd (l.set i y) m)).ownBlock = (hv (gd l m)).ownBlock := fun m hm => by
      by_cases e : m = i
      · subst e; rw [gd_set_at hi', hb]
      · rw [e1 m hm e]
    rw [e4 a (by omega), e4 b hb2]
    exact h.2.2.2 a b c hab hb2
end
end Go.Proofs.Ytbkkaibjenofiaa

namespace Go.Proofs.Ytbkkaibjenofiaa
open Go.RowKit
def seeL (n : Int) (s : List Int) : List Int := pickG (fun j => !(gd s j == n)) (gd s) s.length
def dpX (n : Int) (x : Hdg) : Hdg := ⟨x.id, x.nm, x.un, none, 0, seeL n x.sub⟩
def dpUnd (l : List Hdg) (n : Int) : Bool := (findTo (fun i => (gd l i).un == n) l.length).isSome
def dpGood (l : List Hdg) (n : Int) : Bool := isHd l n && !dpUnd l n
def dpOut (l : List Hdg) (n : Int) (k : Nat) : List Hdg := pickG (fun i => !((gd l i).id == n)) (fun i => dpX n (gd l i)) k
def dpB (l : List Hdg) (n : Int) : List Hdg := if dpGood l n then dpOut l n l.length else []
theorem dpX_same {x y : Hdg} (h : x.bare = y.bare) (n : Int) : dpX n x = dpX n y := by
  obtain ⟨e1, e2, e3, e4⟩ := Hdg.sub_eq h
  rw [dpX, dpX, e1, e2, e3, e4]
theorem dpOut_same {l l' : List Hdg} (h : l'.map Hdg.bare = l.map Hdg.bare) (n : Int) : dpOut l' n l.length = dpOut l n l.length :=
  pickG_congr (fun i hi => by rw [(Hdg.sub_eq (map_same_at h i hi).2).1]) (fun i hi => dpX_same (map_same_at h i hi).2 n)
theorem dp_same {l l' : List Hdg} (h : l'.map Hdg.bare = l.map Hdg.bare) (n : Int) : dpB l' n = dpB l n ∧ dpGood l' n = dpGood l n := by
  have hl : l'.length = l.length := by simpa using congrArg List.length h
  have hu : dpUnd l' n = dpUnd l n := by
    unfold dpUnd
    rw [hl]
    congr 1
    exact find_congr fun i hi => by rw [(Hdg.sub_eq (map_same_at h i hi).2).2.2.1]
  have hg : dpGood l' n = dpGood l n := by rw [dpGood, dpGood, isHd_same h, hu]
  refine ⟨?_, hg⟩
  rw [dpB, dpB, hg, hl, dpOut_same h]
theorem seeL_len (n : Int) (s : List Int) : (seeL n s).length ≤ s.length := pickG_len _ _ _
theorem pickG_mem {α : Type} {p : Nat → Bool} {f : Nat → α} {n : Nat} {x : α} (h : x ∈ pickG p f n) : ∃ i, i < n ∧ p i = true ∧ f i = x := by
  simp only [pickG, List.mem_map, List.mem_filter, List.mem_range] at h
  obtain ⟨i, ⟨h1, h2⟩, h3⟩ := h
  exact ⟨i, h1, h2, h3⟩
theorem dpB_bound (l : List Hdg) (n : Int) : (dpB l n).length ≤ 1048577 ∧ ∀ i, i < (dpB l n).length → (gd (dpB l n) i).sub.length ≤ 1048577 := by
  unfold dpB
  split
  · rename_i h
    simp only [dpGood, Bool.and_eq_true] at h
    have hA := (isHd_some h.1).1
    have h15 := areHd_len hA
    have hle : (dpOut l n l.length).length ≤ l.length := pickG_len _ _ _
    refine ⟨by omega, fun i hi => ?_⟩
    obtain ⟨m, hm, _, e⟩ := pickG_mem (gd_mem hi)
    rw [show gd (dpOut l n l.length) i = dpX n (gd l m) from e.symm]
    have := areHd_sub hA m hm
    have := seeL_len n (gd l m).sub
    show (seeL n (gd l m).sub).length ≤ _
    omega
  · exact ⟨by simp, fun i hi => by simp at hi⟩
set_option maxHeartbeats 400000 in
theorem dropHeading1_c (x : Hdg) (n : Int) (b : Nat) (W : World) (hc : W.cell? ⟨b, 0, none⟩ = some (.int .i64 n)) : Calls Try.prog 84 #[.agg #[.int .i64 x.id, .string x.nm, .int .i64 x.un, .slice x.a x.sub.length x.cap], .pointer (some ⟨b, 0, none⟩)] W fun e w' => e = .returned (.bool (x.un == n)) ∧ Below W.heap.size W w' := by
  have hb := block_lt_of_cell hc
  go_enter Try.func84, Try.ntmps84
  go_wp2_with fail
  go_ret
  exact ⟨rfl, (by repeat' (first | exact Below.refl _ _ | with_reducible assumption | refine bext ?_ ?_ _ | refine Below.alloc ?_ ?_ _ | refine Below.setCell ?_ ?_ _ | refine Below.drew ?_ | (simp; done) | (have hbz := hb.size; first | omega | (simp; omega)) | (simp; omega) | omega))⟩
set_option maxHeartbeats 400000 in
theorem dropHeading2_c (x : Hdg) (n : Int) (b : Nat) (W : World) (hc : W.cell? ⟨b, 0, none⟩ = some (.int .i64 n)) : Calls Try.prog 86 #[.agg #[.int .i64 x.id, .string x.nm, .int .i64 x.un, .slice x.a x.sub.length x.cap], .pointer (some ⟨b, 0, none⟩)] W fun e w' => e = .returned (.bool (x.id == n)) ∧ Below W.heap.size W w' := by
  have hb := block_lt_of_cell hc
  go_enter Try.func86, Try.ntmps86
  go_wp2_with fail
  go_ret
  exact ⟨rfl, (by repeat' (first | exact Below.refl _ _ | with_reducible assumption | refine bext ?_ ?_ _ | refine Below.alloc ?_ ?_ _ | refine Below.setCell ?_ ?_ _ | refine Below.drew ?_ | (simp; done) | (have hbz := hb.size; first | omega | (simp; omega)) | (simp; omega) | omega))⟩
set_option maxHeartbeats 400000 in
theorem dropHeading3_c (x : Int) (n : Int) (b : Nat) (W : World) (hc : W.cell? ⟨b, 0, none⟩ = some (.int .i64 n)) : Calls Try.prog 88 #[.int .i64 x, .pointer (some ⟨b, 0, none⟩)] W fun e w' => e = .returned (.bool (x == n)) ∧ Below W.heap.size W w' := by
  go_enter Try.func88, Try.ntmps88
  go_wp2_with fail
  go_ret
  exact ⟨rfl, Below.refl _ _⟩
theorem cellGrownB {W W' : World} {b o : Nat} {v : Value} {row : Option Nat} (h : W.cell? ⟨b, o, none⟩ = some v) (hg : W.grownBy W' row) (hne : some b ≠ row) : W'.cell? ⟨b, o, none⟩ = some v := by
  have hb := block_lt_of_cell h
  have e := hg.block b hb hne
  simp only [World.cell?] at h ⊢
  rw [e]
  exact h
set_option maxHeartbeats 4000000 in
set_option maxRecDepth 100000 in
theorem dropHeading_c (v : Value) (l : List Hdg) (n : Int) (w : World) (h : Sl w Hdg.enc 4 v l) (hd : Hdg.Deep w l) (hs : ∀ i, i < l.length → (gd l i).Fits) (hls : ∀ i, i < l.length → (gd l i).sub.length ≤ 1048577) : Calls Try.prog 34 #[v, .int .i64 n] w (Hdg.RetNB w (dpB l n) (dpGood l n)) := by
  have HA := Lib.hid (fun W (hB : Below w.heap.size w W) => isHeading_c v l n W (h.mono hB) (hd.mono hB) hs)
  have HC := fun hl => Lib.hid (fun W (hB : Below w.heap.size w W) => copyHeadings_c v l W (h.mono hB) (hd.mono hB) hl hls)
  have hB' := Lib.hid (show dpB l n = if dpGood l n then dpOut l n l.length else [] from rfl)
  have A0 := below_alloc w (.cells #[.int .i64 n] 3)
  have k0 : (w.alloc (.cells #[.int .i64 n] 3)).cell? ⟨w.heap.size, 0, none⟩ = some (.int .i64 n) := by simp
  obtain ⟨a, cap, b, off, rfl, hlc, hm, hc⟩ := h
  have HF := Lib.hid (fun W (hW : Below (w.alloc (.cells #[.int .i64 n] 3)).heap.size (w.alloc (.cells #[.int .i64 n] 3)) W) => containsFuncHdg_c a cap b off l W 84 #[.pointer (some ⟨w.heap.size, 0, none⟩)] (fun i => (gd l i).un == n) (Nat.le_trans hlc hm) ((hc.mono A0).mono hW) (fun _ _ => by kernel_rfl) (fun i W' hi hB => dropHeading1_c (gd l i) n w.heap.size W' (cellOn hB (cellOn hW k0))))
  unfold maxLen at hm
  have hG : dpGood l n = (isHd l n && !(findTo (fun i => (gd l i).un == n) l.length).isSome) := rfl
  cases hh : isHd l n
  · have hg : dpGood l n = false := by rw [hG, hh]; rfl
    rw [hg] at hB' ⊢
    rw [show dpB l n = [] from hB'.out]
    rw [hh] at HA
    replace HA := Lib.hid HA.out
    clear hh hg hG HC HF
    go_enter Try.func34, Try.ntmps34
    go_wp2_with (go_at_call 52; refine (HA.out _ (by repeat' (first | exact Below.refl _ _ | with_reducible assumption | refine bext ?_ ?_ _ | refine Below.alloc ?_ ?_ _ | refine Below.setCell ?_ ?_ _ | refine Below.drew ?_ | (simp; done) | (have hbz := hb.size; first | omega | (simp; omega)) | (simp; omega) | omega))).mono ?_; rintro e w' ⟨rfl, hbq⟩; obtain ⟨p, rfl⟩ := ext_of_below hbq; clear hbq)
    go_ret2
    exact ⟨_, [], rfl, NOwn.nil _ _ _, rfl, (by repeat' (first | exact Below.refl _ _ | with_reducible assumption | refine bext ?_ ?_ _ | refine Below.alloc ?_ ?_ _ | refine Below.setCell ?_ ?_ _ | refine Below.drew ?_ | (simp; done) | (have hbz := hb.size; first | omega | (simp; omega)) | (simp; omega) | omega))⟩
  · rw [hh] at HA
    replace HA := Lib.hid HA.out
    cases hu : (findTo (fun i => (gd l i).un == n) l.length).isSome
    · have hg : dpGood l n = true := by rw [hG, hh, hu]; rfl
      rw [hg] at hB' ⊢
      rw [show dpB l n = dpOut l n l.length from hB'.out]
      rw [hu] at HF
      replace HF := Lib.hid HF.out
      have h15 := areHd_len (isHd_some hh).1
      replace HC := HC (by omega)
      clear hh hg hG hB' hu hd
      go_enter Try.func34, Try.ntmps34
      go_wp2_with (first | (go_at_call 52; refine (HA.out _ (by repeat' (first | exact Below.refl _ _ | with_reducible assumption | refine bext ?_ ?_ _ | refine Below.alloc ?_ ?_ _ | refine Below.setCell ?_ ?_ _ | refine Below.drew ?_ | (simp; done) | (have hbz := hb.size; first | omega | (simp; omega)) | (simp; omega) | omega))).mono ?_; rintro e w' ⟨rfl, hbq⟩; obtain ⟨p, rfl⟩ := ext_of_below hbq; clear hbq) | (go_at_call 75; refine (HF.out _ (by repeat' (first | exact Below.refl _ _ | with_reducible assumption | refine bext ?_ ?_ _ | refine Below.alloc ?_ ?_ _ | refine Below.setCell ?_ ?_ _ | refine Below.drew ?_ | (simp; done) | (have hbz := hb.size; first | omega | (simp; omega)) | (simp; omega) | omega))).mono ?_; rintro e w' ⟨rfl, hbq⟩; obtain ⟨p2, rfl⟩ := ext_of_below hbq; clear hbq))
      refine callsAt (fun W hW => ?_)
      have BW : Below (w.alloc (.cells #[.int .i64 n] 3)).heap.size (w.alloc (.cells #[.int .i64 n] 3)) W := by rw [hW]; exact (by repeat' (first | exact Below.refl _ _ | with_reducible assumption | refine bext ?_ ?_ _ | refine Below.alloc ?_ ?_ _ | refine Below.setCell ?_ ?_ _ | refine Below.drew ?_ | (simp; done) | (have hbz := hb.size; first | omega | (simp; omega)) | (simp; omega) | omega))
      clear hW HA HF
      have cW := cellOn BW k0
      have BW' := btrans A0 BW
      have hzW : w.heap.size + 1 ≤ W.heap.size := by have := BW.size; simpa using this
      refine (HC.out W BW').mono ?_
      rintro e w2 ⟨v2, l2, rfl, N2, e2, b2⟩
      have c2 := cellOn b2 cW
      have hne2 : some w.heap.size ≠ v2.ownBlock := fun e => by have := (N2.own.bounds _ e.symm).1; omega
      have hD := Lib.hid (deleteFuncHdg_c v2 l2 W.heap.size w2 86 #[.pointer (some ⟨w.heap.size, 0, none⟩)] (fun i => (gd l2 i).id == n) N2.own (fun _ _ => by kernel_rfl) (fun i W' hi hg => dropHeading2_c (gd l2 i) n w.heap.size W' (cellGrownB c2 hg hne2)))
      have hl2 : l2.length = l.length := by simpa using congrArg List.length e2
      have B2 := btrans BW' b2
      have hz2 := b2.size
      go_wp2_with fail
      refine hD.out.mono ?_
      rintro e w3 ⟨v3, rfl, hb3, o3, g3⟩
      have N3 := N2.pick _ o3 hb3 g3
      have c3 := cellGrownB c2 g3 hne2
      have B3 : Below w.heap.size w w3 := B2.grown g3 (Nat.le_trans (by omega) hz2) (fun g hg => by have := (N2.own.bounds g hg).1; omega)
      have hPm : (pickG (fun i => !((gd l2 i).id == n)) (gd l2) l2.length).map (dpX n) = dpOut l n l.length := by
        rw [pickG_map, hl2]
        exact dpOut_same e2 n
      have hP15 : (pickG (fun i => !((gd l2 i).id == n)) (gd l2) l2.length).length ≤ 15 := by have := pickG_len (fun i => !((gd l2 i).id == n)) (gd l2) l2.length; omega
      generalize pickG (fun i => !((gd l2 i).id == n)) (gd l2) l2.length = P at N3 hPm hP15
      have hz23 := g3.size
      clear hD hne2 N2 e2 o3 g3 hb3 c2 cW k0 HC
      obtain ⟨a6, cap6, b6, off6, rfl, hlc6, hm6, -⟩ := N3.own.sl Hdg.len
      unfold maxLen at hm6
      have hz3 : W.heap.size ≤ w3.heap.size := Nat.le_trans hz2 hz23
      replace hPm := Lib.hid hPm
      replace N3 := Lib.hid N3
      go_wp2_with fail
      go_loopw [7, 23] (fun _ i wr => ∃ (k : Nat) (cur : List Hdg), k ≤ P.length ∧ i = .int .i64 k ∧ cur.length = P.length ∧ Hid (∀ m, m < k → (gd cur m).bare = dpX n (gd P m)) ∧ Hid (∀ m, k ≤ m → m < P.length → gd cur m = gd P m) ∧ Hid (Hdg.OwnN wr W.heap.size w2.heap.size (.slice a6 P.length cap6) cur) ∧ Hid (Below w.heap.size w wr) ∧ wr.cell? ⟨w.heap.size, 0, none⟩ = some (.int .i64 n) ∧ w2.heap.size ≤ wr.heap.size) (fun _ i _ => P.length - (intOf i).toNat)
      case atStart => exact ⟨0, P, Nat.zero_le _, rfl, rfl, fun m hm => by omega, fun _ _ _ => rfl, N3.out, B3, c3, hz23⟩
      case round =>
      obtain ⟨k, cur, hk, rfl, hcl, hd1, hd2, hN, hB, cb, hzr⟩ := hrel
      by_cases hlt : k < P.length
      · obtain ⟨g, cap', hv', hlo, hg, -, -, -, hcc⟩ := hN.out.own.form Hdg.len (by omega)
        have ea : a6 = some ⟨g, 0, none⟩ := by injection hv'
        clear hv'
        subst ea
        obtain ⟨-, -, d0, d1, d2, d3⟩ := Hdg.at hcc k (by omega)
        rw [hd2.out k (Nat.le_refl _) hlt, Nat.zero_add] at d0 d1 d2 d3
        have hI := hN.out.inn k (by omega)
        rw [hd2.out k (Nat.le_refl _) hlt] at hI
        have hneI : ∀ q, (Hdg.hv (gd P k)).ownBlock = some q → q ≠ w.heap.size ∧ q ≠ g := fun q hq => by
          have h1 := (hI.bounds q hq).1
          have h2 := (hN.out.2.2.1 k (by omega)).2
          rw [hd2.out k (Nat.le_refl _) hlt] at h2
          have h3 := (h2 q hq).2
          exact ⟨by omega, fun e => h3 (by rw [e]; rfl)⟩
        have hD := Lib.hid (deleteFuncInt_c (Hdg.hv (gd P k)) (gd P k).sub W.heap.size wr 88 #[.pointer (some ⟨w.heap.size, 0, none⟩)] (fun j => gd (gd P k).sub j == n) hI (fun _ _ => by kernel_rfl) (fun j W' hj hg' => dropHeading3_c (gd (gd P k).sub j) n w.heap.size W' (cellGrownB cb hg' (fun e => (hneI _ e.symm).1 rfl))))
        clear hcc
        go_wp2_with fail
        refine hD.out.mono ?_
        rintro e w7 ⟨v7, rfl, hb7, o7', g7⟩
        have o7 : Own w7 W.heap.size 3 IntE.enc 1 v7 (seeL n (gd P k).sub) := o7'
        clear o7'
        obtain ⟨a7, cap7, b7, off7, rfl, -, -, -⟩ := o7.sl IntE.len
        have h7 : Own w7 W.heap.size 55 Hdg.enc 4 (.slice (some ⟨g, 0, none⟩) P.length cap6) cur := hN.out.own.kept g7 (.inr fun e => (hneI g e.symm).2 rfl)
        obtain ⟨g', cap'', hv', -, hg7, -, -, hfz7, hcc7⟩ := h7.form Hdg.len (by omega)
        have eg : g = g' := by injection hv' with e1; injection e1 with e1; injection e1
        subst eg
        clear hv'
        obtain ⟨-, -, f0, f1, f2, f3⟩ := Hdg.at hcc7 k (by omega)
        rw [Nat.zero_add] at f3
        have z3 := hfz7 (k * 4 + 3)
        have hgw : w.heap.size < g := by omega
        have N7 := NOwn.reslice Hdg.len hN.out k (by omega) { gd P k with a := a7, cap := cap7, sub := seeL n (gd P k).sub } 3 (by omega) (.slice a7 (seeL n (gd P k).sub).length cap7) (by rw [hd2.out k (Nat.le_refl _) hlt]; rfl) (by rw [hd2.out k (Nat.le_refl _) hlt]; exact hb7) o7 (by rw [hd2.out k (Nat.le_refl _) hlt]; exact g7)
        have B7 := Lib.hid ((hB.out.grown g7 (by omega) (fun q hq => by have := (hI.bounds q hq).1; omega)).setCell (p := ⟨g, k * 4 + 3, none⟩) (by show w.heap.size ≤ g; omega) (.slice a7 (seeL n (gd P k).sub).length cap7))
        have cb7 := cellGrownB cb g7 (fun e => (hneI _ e.symm).1 rfl)
        have cb8 := cellGrownB cb7 (only_setCell (World.grownBy.refl w7 (some g)) ⟨g, k * 4 + 3, none⟩ rfl (.slice a7 (seeL n (gd P k).sub).length cap7)) (fun e => by injection e with e; omega)
        have hz7 : w2.heap.size ≤ (w7.setCell ⟨g, k * 4 + 3, none⟩ (.slice a7 (seeL n (gd P k).sub).length cap7)).heap.size := by simpa using Nat.le_trans hzr g7.size
        replace N7 := Lib.hid N7
        clear hcc7 hfz7 h7 g7 o7 hb7 cb7 hI
        go_wp2_with fail
        go_roundw
        case rel =>
          refine ⟨k + 1, _, by omega, by go_num, by simp [hcl], fun m hm => ?_, fun m h1 h2 => ?_, N7.out, B7.out, cb8, hz7⟩
          · by_cases e : m = k
            · subst e
              rw [gd_set_at (by omega)]
              rfl
            · rw [gd_set_ne (Ne.symm e)]
              exact hd1.out m (by omega)
          · rw [gd_set_ne (by omega)]
            exact hd2.out m (by omega) h2
        case measure => simp [intOf]; omega
      · obtain rfl : k = P.length := by omega
        have hE := Lib.hid (show cur.map Hdg.bare = dpOut l n l.length by
          rw [← hPm.out]
          apply List.ext_getElem
          · simp [hcl]
          · intro m h1 h2
            have hm : m < P.length := by simpa using h2
            have := hd1.out m hm
            rw [gd_get (by omega), gd_get hm] at this
            simpa using this)
        go_wp2_with fail
        go_ret2
        exact ⟨_, cur, rfl, hN.out.wide (by omega) hzr, hE.out, hB.out⟩
    · have hg : dpGood l n = false := by rw [hG, hh, hu]; rfl
      rw [hg] at hB' ⊢
      rw [show dpB l n = [] from hB'.out]
      rw [hu] at HF
      replace HF := Lib.hid HF.out
      clear hh hg hG HC hu
      go_enter Try.func34, Try.ntmps34
      go_wp2_with (first | (go_at_call 52; refine (HA.out _ (by repeat' (first | exact Below.refl _ _ | with_reducible assumption | refine bext ?_ ?_ _ | refine Below.alloc ?_ ?_ _ | refine Below.setCell ?_ ?_ _ | refine Below.drew ?_ | (simp; done) | (have hbz := hb.size; first | omega | (simp; omega)) | (simp; omega) | omega))).mono ?_; rintro e w' ⟨rfl, hbq⟩; obtain ⟨p, rfl⟩ := ext_of_below hbq; clear hbq) | (go_at_call 75; refine (HF.out _ (by repeat' (first | exact Below.refl _ _ | with_reducible assumption | refine bext ?_ ?_ _ | refine Below.alloc ?_ ?_ _ | refine Below.setCell ?_ ?_ _ | refine Below.drew ?_ | (simp; done) | (have hbz := hb.size; first | omega | (simp; omega)) | (simp; omega) | omega))).mono ?_; rintro e w' ⟨rfl, hbq⟩; obtain ⟨p2, rfl⟩ := ext_of_below hbq; clear hbq))
      go_ret2
      exact ⟨_, [], rfl, NOwn.nil _ _ _, rfl, (by repeat' (first | exact Below.refl _ _ | with_reducible assumption | refine bext ?_ ?_ _ | refine Below.alloc ?_ ?_ _ | refine Below.setCell ?_ ?_ _ | refine Below.drew ?_ | (simp; done) | (have hbz := hb.size; first | omega | (simp; omega)) | (simp; omega) | omega))⟩
theorem dp_way (l : List Hdg) (n : Int) : (duGood l n = false ∧ dpGood l n = false) ∨ (duGood l n = true ∧ (n == 0) = true ∧ dpGood l n = false) ∨ (duGood l n = true ∧ (n == 0) = false ∧ 0 < (duL l n).length ∧ dpGood l n = false) ∨ (duGood l n = true ∧ (n == 0) = false ∧ (duL l n).length = 0 ∧ dpGood l n = true) := by
  cases hd : duGood l n
  · refine .inl ⟨rfl, ?_⟩
    have : isHd l n = false := by
      unfold duGood at hd
      unfold isHd
      cases hA : areHd l
      · rfl
      · rw [hA] at hd
        simp at hd
        simp [hd.2]
    rw [dpGood, this]; rfl
  · have hA : areHd l = true := by unfold duGood at hd; simp at hd; exact hd.1
    have hL : duL l n = duIds l n l.length := by rw [duL, hd]; rfl
    by_cases h0 : n = 0
    · refine .inr (.inl ⟨rfl, by simp [h0], ?_⟩)
      have : isHd l n = false := by
        cases hI : hdIdx l n with
        | none => rw [isHd, hI]; simp
        | some k =>
          obtain ⟨h1, h2⟩ := hdIdx_some hI
          have := hdHead_b (areHd_heads hA k h1)
          omega
      rw [dpGood, this]; rfl
    · have h0' : (n == 0) = false := by simp [h0]
      have hH : isHd l n = true := by
        unfold duGood at hd
        rw [hA, h0'] at hd
        rw [isHd, hA]
        simpa using hd
      cases hu : dpUnd l n
      · refine .inr (.inr (.inr ⟨rfl, h0', ?_, by rw [dpGood, hH, hu]; rfl⟩))
        have hn : ∀ i, i < l.length → ((gd l i).un == n) = false := by
          unfold dpUnd at hu
          cases hf : findTo (fun i => (gd l i).un == n) l.length with
          | none => exact findTo_none_spec hf
          | some k => rw [hf] at hu; cases hu
        rw [hL]
        have : ∀ k, k ≤ l.length → duIds l n k = [] := by
          intro k
          induction k with
          | zero => intro _; rfl
          | succ k ih => intro hk; rw [duIds, pickL_no (p := fun i => (gd l i).un == n) (hn k (by omega))]; exact ih (by omega)
        rw [this l.length (Nat.le_refl _)]
        rfl
      · refine .inr (.inr (.inl ⟨rfl, h0', ?_, by rw [dpGood, hH, hu]; rfl⟩))
        unfold dpUnd at hu
        obtain ⟨k, hk⟩ := Option.isSome_iff_exists.1 hu
        obtain ⟨h1, h2, _⟩ := findTo_spec hk
        rw [hL, duIds, pickL, List.length_map]
        exact List.length_pos_of_mem (List.mem_filter.2 ⟨List.mem_range.2 h1, h2⟩)
theorem frozenGrown {W W' : World} {b o : Nat} {row : Option Nat} (h : W.frozen? ⟨b, o, none⟩ = false) (hb : b < W.heap.size) (hg : W.grownBy W' row) (hne : some b ≠ row) : W'.frozen? ⟨b, o, none⟩ = false := by
  have e := hg.block b hb hne
  rw [← h]
  exact World.frozen?_of_block (w := W) (a := ⟨b, o, none⟩) e
theorem boxGrown4' {W W' : World} {b : Nat} {cs : List Value} {row : Option Nat} (h : BoxAt W b cs) (hg : W.grownBy W' row) (hne : some b ≠ row) : BoxAt W' b cs :=
  ⟨Nat.lt_of_lt_of_le h.1 hg.size, fun j v hv => cellGrownB (h.2 j v hv) hg hne⟩
def seeP (n : Int) (s : List Int) (k : Nat) : List Int := pickG (fun j => !(gd s j == n)) (gd s) k
set_option maxHeartbeats 4000000 in
set_option maxRecDepth 100000 in
theorem specDropHeading_c (v : Value) (l : List Hdg) (n : Int) (w : World) (h : Sl w Hdg.enc 4 v l) (hd : Hdg.Deep w l) (hs : ∀ i, i < l.length → (gd l i).Fits) : Calls Try.prog 35 #[v, .int .i64 n] w (Hdg.RetNB w (dpB l n) (dpGood l n)) := by
  have HD := specDirectlyUnder_c v l n w h hd hs
  have hB' := Lib.hid (show dpB l n = if dpGood l n then dpOut l n l.length else [] from rfl)
  have hA : duGood l n = true → areHd l = true := fun hd => by unfold duGood at hd; simp at hd; exact hd.1
  obtain ⟨a, cap, b, off, rfl, hlc, hm, hc⟩ := h
  obtain ⟨i, hi, hz0, hz1, hz2⟩ := info_parts (show (Try.prog.info? 55).map (fun i => (i.zero, i.size, i.bytes)) = some (some (.agg #[.int .i64 0, .string ByteArray.empty, .int .i64 0, .slice none 0 0]), 4, 56) by kernel_rfl)
  obtain ⟨i', hi', hy0, hy1, hy2⟩ := info_parts (show (Try.prog.info? 3).map (fun i => (i.zero, i.size, i.bytes)) = some (some (.int .i64 0), 1, 8) by kernel_rfl)
  unfold maxLen at hm
  have hway := dp_way l n
  generalize dpB l n = B at hB' ⊢
  generalize dpGood l n = ok at hway hB' ⊢
  generalize duL l n = U at hway HD
  rcases hway with ⟨h1, rfl⟩ | ⟨h1, h2, rfl⟩ | ⟨h1, h2, h3, rfl⟩ | ⟨h1, h2, h3, rfl⟩
  iterate 3
    · rw [h1] at HD
      replace HD := Lib.hid HD
      clear h1 hA
      go_enter Try.func35, Try.ntmps35
      go_wp2_with fail
      refine HD.out.mono ?_
      rintro e w1 ⟨v1, rfl, o1, b1⟩
      obtain ⟨a1, cap1, b1', off1, rfl, -, -, -⟩ := o1.sl IntE.len
      go_wp2_with fail
      go_ret2
      exact ⟨_, [], rfl, NOwn.empty' (by simp) (by have := b1.size; simp; omega), by rw [hB'.out]; rfl, b1.alloc b1.size _⟩
  · have h15 := areHd_len (hA h1)
    have hsub := Lib.hid (fun i (hi : i < l.length) => areHd_sub (hA h1) i hi)
    rw [h1] at HD
    replace HD := Lib.hid HD
    replace hd := Lib.hid hd
    clear h1 hA hs
    go_enter Try.func35, Try.ntmps35
    go_wp2_with fail
    refine HD.out.mono ?_
    rintro e w1 ⟨v1, rfl, o1, b1⟩
    obtain ⟨a1, cap1, b1', off1, rfl, -, -, -⟩ := o1.sl IntE.len
    rw [h3]
    have hz1' := b1.size
    clear o1 HD
    go_wp2_with fail
    have N0 : Hdg.OwnN (w1.alloc (.cells #[] 55)) w.heap.size (w1.alloc (.cells #[] 55)).heap.size (.slice (some ⟨w1.heap.size, 0, none⟩) 0 0) [] := NOwn.empty' rfl (by omega)
    have B0 : Below w.heap.size w (w1.alloc (.cells #[] 55)) := b1.alloc b1.size _
    generalize w1.alloc (.cells #[] 55) = W1 at N0 B0 ⊢
    generalize hv0 : Value.slice (some ⟨w1.heap.size, 0, none⟩) 0 0 = v0 at N0 ⊢
    go_loopw [8, 9] (fun o j wr => ∃ (k : Nat) (cur : List Hdg), k ≤ l.length ∧ j = .int .i64 k ∧ Hid (cur.map Hdg.bare = dpOut l n k) ∧ cur.length ≤ k ∧ Hid (Hdg.OwnN wr w.heap.size wr.heap.size o cur) ∧ Below w.heap.size w wr) (fun _ j _ => l.length - (intOf j).toNat)
    case atStart => exact ⟨0, [], Nat.zero_le _, rfl, Lib.hid rfl, Nat.le_refl _, N0, B0⟩
    case round =>
    obtain ⟨k, cur, hk, rfl, hcm, hcl, hN, hb⟩ := hrel
    by_cases hlt : k < l.length
    · obtain ⟨ea, hbw, c0, c1, c2, c3⟩ := Hdg.at (hc.mono hb) k hlt
      subst ea
      have hSI := Lib.hid ((hd.out k hlt).mono hb)
      have hS4 := hsub.out k hlt
      have hzb := hb.size
      have hOut0 := fun h => Lib.hid (show dpOut l n (k + 1) = dpOut l n k from pickG_no (p := fun i => !((gd l i).id == n)) h)
      have hOut1 := fun h => Lib.hid (show dpOut l n (k + 1) = dpOut l n k ++ [dpX n (gd l k)] from pickG_yes (p := fun i => !((gd l i).id == n)) (f := fun i => dpX n (gd l i)) h)
      generalize gd l k = X at c0 c1 c2 c3 hSI hS4 hOut0 hOut1
      obtain ⟨xid, xnm, xun, xa, xcap, S⟩ := X
      dsimp only at c0 c1 c2 c3 hSI hS4 hOut0 hOut1
      have hSS := Lib.hid (show Sl wr IntE.enc 1 (.slice xa S.length xcap) S from hSI.out)
      clear hSI
      go_upto_region 10 with fail
      have X0 : BoxAt ((wr.alloc (.cells #[.int .i64 xid, .string xnm, .int .i64 xun, .slice xa S.length xcap] 55)).alloc (.cells #[] 3)) wr.heap.size [.int .i64 xid, .string xnm, .int .i64 xun, .slice xa S.length xcap] := (BoxAt.new wr _ _).mono (below_alloc _ _)
      have O0 : Own ((wr.alloc (.cells #[.int .i64 xid, .string xnm, .int .i64 xun, .slice xa S.length xcap] 55)).alloc (.cells #[] 3)) (wr.heap.size + 1) 3 IntE.enc 1 (.slice (some ⟨wr.heap.size + 1, 0, none⟩) 0 0) ([] : List Int) := by
        have := Own.empty (α := Int) (wr.alloc (.cells #[.int .i64 xid, .string xnm, .int .i64 xun, .slice xa S.length xcap] 55)) (wr.heap.size + 1) 3 IntE.enc 1 (by simp)
        simpa using this
      have D0 : Below wr.heap.size wr ((wr.alloc (.cells #[.int .i64 xid, .string xnm, .int .i64 xun, .slice xa S.length xcap] 55)).alloc (.cells #[] 3)) := btrans (below_alloc _ _) (below_alloc _ _)
      have F0 : ((wr.alloc (.cells #[.int .i64 xid, .string xnm, .int .i64 xun, .slice xa S.length xcap] 55)).alloc (.cells #[] 3)).frozen? ⟨wr.heap.size, 3, none⟩ = false := ((below_alloc _ _).frozen (p := ⟨wr.heap.size, 3, none⟩) (by simp)).trans (by simp)
      generalize (wr.alloc (.cells #[.int .i64 xid, .string xnm, .int .i64 xun, .slice xa S.length xcap] 55)).alloc (.cells #[] 3) = W2 at X0 O0 D0 F0 ⊢
      generalize Value.slice (some ⟨wr.heap.size + 1, 0, none⟩) 0 0 = s0 at O0 ⊢
      have hp0 : Value.pointer (some ⟨wr.heap.size, 0, none⟩) = .pointer (some ⟨wr.heap.size, 0, none⟩) := rfl
      clear c0 c1 c2 c3 hp0
      obtain ⟨wo, hwo⟩ : ∃ x, x = wr := ⟨_, rfl⟩
      subst hwo
      go_wp2_with fail
      go_loopw [11, 12] (fun o j ws => ∃ m : Nat, m ≤ S.length ∧ j = .int .i64 m ∧ Hid (Own ws (wo.heap.size + 1) 3 IntE.enc 1 o (seeP n S m)) ∧ Hid (BoxAt ws wo.heap.size [.int .i64 xid, .string xnm, .int .i64 xun, .slice xa S.length xcap]) ∧ Hid (Below wo.heap.size wo ws) ∧ wo.heap.size < ws.heap.size ∧ ws.frozen? ⟨wo.heap.size, 3, none⟩ = false) (fun _ j _ => S.length - (intOf j).toNat)
      case atStart => exact ⟨0, Nat.zero_le _, rfl, O0, X0, D0, X0.1, F0⟩
      case round =>
      obtain ⟨m, hm2, rfl, hO, hX, hD, hbs, hz3⟩ := hrel
      have x3 := hX.out.2 3 _ rfl
      have hpl : (seeP n S m).length ≤ m := pickG_len _ _ m
      by_cases hlm : m < S.length
      · obtain ⟨a8, cap8, b8, off8, hv8, hl8, hm8, hc8⟩ := hSS.out
        injection hv8 with e81 e82 e83
        subst e81 e83
        unfold maxLen at hm8
        obtain ⟨ea, hbw8, y0⟩ := IntE.at (hc8.mono hD.out) m hlm
        subst ea
        clear hc8
        cases hq : (gd S m == n)
        · have hun := Lib.hid (show seeP n S (m + 1) = seeP n S m ++ [gd S m] from pickG_yes (p := fun j => !(gd S j == n)) (by rw [hq]; rfl))
          go_wp2_with (at_builtin; refine wpList_push IntE.len IntE.one rfl _ _ 33 rfl (wo.heap.size + 1) 3 i' _ 8 Try.underlying33 hi' hy0 hy1 hy2 rfl (by omega) _ _ rfl (hO.out.mono (below_alloc _ _)) _ 1 (gd S m) rfl (fun j u hu => new_cells _ [.int .i64 (gd S m)] _ _ (by simp) j u hu) (by unfold maxLen; omega) (by omega) (by simp; omega) ?_)
          intro v' w3 ho3 hg3
          have D3 : Below wo.heap.size wo w3 := below_push (lo := wo.heap.size + 1) (B := wo.heap.size) (a := wo) (hD.out.trans ((below_alloc _ _).mono hD.out.size)) (hO.out.mono (below_alloc _ _)) hg3 (by omega) (by simp; omega)
          have F3 := frozenGrown (((below_alloc wr (.cells #[.int .i64 (gd S m)] 3)).frozen (p := ⟨wo.heap.size, 3, none⟩) hbs).trans hz3) (by simp; omega) hg3 (fun e => by have := (hO.out.bounds _ e.symm).1; omega)
          have X3 := boxGrown4' (hX.out.mono (below_alloc _ _)) hg3 (fun e => by have := (hO.out.bounds _ e.symm).1; omega)
          go_wp2_with fail
          go_roundw
          case rel => exact ⟨m + 1, by omega, by go_num, by rw [hun.out]; exact ho3, X3, D3, X3.1, F3⟩
          case measure => simp [intOf]; omega
        · have hun := Lib.hid (show seeP n S (m + 1) = seeP n S m from pickG_no (p := fun j => !(gd S j == n)) (by rw [hq]; rfl))
          replace hq := Lib.hid (show gd S m = n from eq_of_beq hq)
          have hq' : (gd S m == n) = true := by rw [hq.out]; simp
          go_wp2_with fail
          go_roundw
          case rel => exact ⟨m + 1, by omega, by go_num, by rw [hun.out]; exact hO.out, hX.out, hD.out, hbs, hz3⟩
          case measure => simp [intOf]; omega
      · obtain rfl : m = S.length := by omega
        obtain ⟨a9, cap9, b9, off9, rfl, -, -, -⟩ := hO.out.sl IntE.len
        have O9 := hO.out
        have XB := hX.out
        obtain ⟨q0, q1, q2, q3⟩ : wr.cell? ⟨wo.heap.size, 0, none⟩ = some (.int .i64 xid) ∧ wr.cell? ⟨wo.heap.size, 1, none⟩ = some (.string xnm) ∧ wr.cell? ⟨wo.heap.size, 2, none⟩ = some (.int .i64 xun) ∧ wr.cell? ⟨wo.heap.size, 3, none⟩ = some (.slice xa S.length xcap) := ⟨XB.2 0 _ rfl, XB.2 1 _ rfl, XB.2 2 _ rfl, XB.2 3 _ rfl⟩
        have hg3 : wr.grownBy (wr.setCell ⟨wo.heap.size, 3, none⟩ (.slice a9 (seeP n S S.length).length cap9)) (some wo.heap.size) := only_setCell (World.grownBy.refl _ _) _ rfl _
        have N3 := Lib.hid ((hN.out.mono hD.out).turned (Turned.of_grown (lo := wo.heap.size) (hi := wo.heap.size + 1) hg3 (fun g hg => by injection hg with hg; omega)) (.inl (Nat.le_refl _)))
        have o3 : Own (wr.setCell ⟨wo.heap.size, 3, none⟩ (.slice a9 (seeP n S S.length).length cap9)) (wo.heap.size + 1) 3 IntE.enc 1 (.slice a9 (seeP n S S.length).length cap9) (seeP n S S.length) := O9.kept hg3 (by
          cases hbk : Value.ownBlock _ with
          | none => exact .inl rfl
          | some g => exact .inr (fun e => by have := (O9.bounds g hbk).1; injection e with e; omega))
        have r0 : (wr.setCell ⟨wo.heap.size, 3, none⟩ (.slice a9 (seeP n S S.length).length cap9)).cell? ⟨wo.heap.size, 0, none⟩ = some (.int .i64 xid) := by simp [go_sem, q0]
        have r1 : (wr.setCell ⟨wo.heap.size, 3, none⟩ (.slice a9 (seeP n S S.length).length cap9)).cell? ⟨wo.heap.size, 1, none⟩ = some (.string xnm) := by simp [go_sem, q1]
        have r2 : (wr.setCell ⟨wo.heap.size, 3, none⟩ (.slice a9 (seeP n S S.length).length cap9)).cell? ⟨wo.heap.size, 2, none⟩ = some (.int .i64 xun) := by simp [go_sem, q2]
        have r3 : (wr.setCell ⟨wo.heap.size, 3, none⟩ (.slice a9 (seeP n S S.length).length cap9)).cell? ⟨wo.heap.size, 3, none⟩ = some (.slice a9 (seeP n S S.length).length cap9) := by simp [go_sem, q3]
        have B3 : Below w.heap.size w (wr.setCell ⟨wo.heap.size, 3, none⟩ (.slice a9 (seeP n S S.length).length cap9)) := (hb.trans (hD.out.mono hzb)).setCell (p := ⟨wo.heap.size, 3, none⟩) (by exact hzb) _
        have hs3 : wo.heap.size < (wr.setCell ⟨wo.heap.size, 3, none⟩ (.slice a9 (seeP n S S.length).length cap9)).heap.size := by simpa using hbs
        go_upto_region 16 with fail
        generalize wr.setCell ⟨wo.heap.size, 3, none⟩ (.slice a9 (seeP n S S.length).length cap9) = W3 at N3 o3 r0 r1 r2 r3 B3 hs3 ⊢
        clear q0 q1 q2 q3 O9 XB hO hX hg3 hD hz3 x3
        replace o3 := Lib.hid o3
        cases hq : (xid == n)
        · have hun := hOut1 (by rw [hq]; rfl)
          have o3b := o3.out.bounds
          go_wp2_with (at_builtin; refine wpList_pushAt Hdg.len Hdg.one rfl _ _ 24 rfl w.heap.size 55 i _ 56 Try.underlying24 hi hz0 hz1 hz2 rfl (by omega) _ cur rfl (N3.out.own.mono (below_alloc _ _)) _ 1 ⟨xid, xnm, xun, a9, cap9, seeP n S S.length⟩ rfl (fun j u hu => new_cells _ (Hdg.enc ⟨xid, xnm, xun, a9, cap9, seeP n S S.length⟩) _ _ (by simp) j u hu) (by unfold maxLen; omega) (by omega) (by simp; omega) ?_)
          intro v' w5 ho5 hg5 hat5
          have N5 := Lib.hid ((N3.out.mono (below_alloc _ _)).push ho5 hg5 (by simpa using hat5) (by simp; omega) ((Own.mono o3.out (below_alloc _ _)).lower (by omega)) (fun b hb => by have := (o3b b hb).1; omega))
          have hb5 := below_push (lo := w.heap.size) (B := w.heap.size) (a := w) (B3.trans ((below_alloc _ _).mono B3.size)) (N3.out.own.mono (below_alloc _ _)) hg5 (Nat.le_refl _) (by simp; omega)
          have hcm5 := Lib.hid (show (cur ++ [(⟨xid, xnm, xun, a9, cap9, seeP n S S.length⟩ : Hdg)]).map Hdg.bare = dpOut l n (k + 1) by rw [hun.out, List.map_append, hcm.out]; rfl)
          clear ho5 hat5
          go_wp2_with fail
          go_roundw
          case rel => exact ⟨k + 1, _, by omega, by go_num, hcm5.out, by simp; omega, N5.out, hb5⟩
          case measure => simp [intOf]; omega
        · have hun := hOut0 (by rw [hq]; rfl)
          replace hq := Lib.hid (show xid = n from eq_of_beq hq)
          have hq' : (xid == n) = true := by rw [hq.out]; simp
          go_wp2_with fail
          go_roundw
          case rel => exact ⟨k + 1, cur, by omega, by go_num, by rw [hun.out]; exact hcm.out, by omega, N3.out.wide (Nat.le_refl _) (by omega), B3⟩
          case measure => simp [intOf]; omega
    · obtain rfl : k = l.length := by omega
      go_wp2_with fail
      go_ret2
      exact ⟨_, cur, rfl, hN.out, by rw [hB'.out, hcm.out]; rfl, hb⟩
end Go.Proofs.Ytbkkaibjenofiaa
