/- Cards: a word added, by the program. No condition but sizes. -/
import Derived.Test.YteainpflmofjaaaGreatAp24
import Derived.Test.YteainpflmofjaaaGreatNp
import Derived.Test.YteainpflmofjaaaGreatMark
import Derived.Deep.Cut
namespace Go.Proofs.YteainpflmofjaaaGreat
open Go.RowKit
section
variable {α β : Type} [Inhabited α] {tE tI : TypeId} {enc : α → List Value} {K : Nat} {encI : β → List Value} {hv : α → Value} {sub : α → List β}
/-- the slice of one element turned and grown, its header with it -/
theorem NOwn.regrow (hk : ∀ x, (enc x).length = K) {w w1 : World} {lo hi : Nat} {g n cap : Nat} {l : List α} (h : NOwn w lo hi tE enc K tI encI hv sub (.slice (some ⟨g, 0, none⟩) n cap) l) (i : Nat) (hi' : i < l.length) (y : α) (j : Nat) (hj : j < K) (u : Value)
    (hy : enc y = (enc (gd l i)).set j u) (hat : (hv y).ownBlock = (hv (gd l i)).ownBlock ∨ (hv y).ownBlock = some hi) (ho : Own w1 lo tI encI 1 (hv y) (sub y)) (hg : w.grownBy w1 (hv (gd l i)).ownBlock) :
    NOwn (w1.setCell ⟨g, i * K + j, none⟩ u) lo (hi + 1) tE enc K tI encI hv sub (.slice (some ⟨g, 0, none⟩) n cap) (l.set i y) := by
  have hghi : g < hi := h.2.1 g rfl
  have hgo : ∀ b, (hv (gd l i)).ownBlock = some b → b ≠ g := fun b hb' e => ((h.2.2.1 i hi').2 b hb').2 (by rw [e]; rfl)
  have hgy : ∀ b, (hv y).ownBlock = some b → b ≠ g := fun b hb' => by
    rcases hat with e | e
    · exact hgo b (by rw [← e]; exact hb')
    · rw [e] at hb'; injection hb' with hb'; omega
  have h1 : Own w1 lo tE enc K (.slice (some ⟨g, 0, none⟩) n cap) l := h.1.kept hg (by
    refine .inr fun e => ?_
    exact hgo g e.symm rfl)
  have hs : w1.grownBy (w1.setCell ⟨g, i * K + j, none⟩ u) (some g) := only_setCell (World.grownBy.refl _ _) _ rfl _
  have kept2 : ∀ {v : Value} {s : List β}, Own w1 lo tI encI 1 v s → (∀ b, v.ownBlock = some b → b ≠ g) → Own (w1.setCell ⟨g, i * K + j, none⟩ u) lo tI encI 1 v s := fun ho2 hne => ho2.kept hs (by
    cases hbv : Value.ownBlock _ with
    | none => exact .inl rfl
    | some b => exact .inr (fun e => hne b hbv (by injection e)))
  have e1 : ∀ m, m < l.length → m ≠ i → gd (l.set i y) m = gd l m := fun m _ hm => gd_set_ne (Ne.symm hm) y
  refine ⟨h1.store hk i hi' y j hj u hy, fun b hb => Nat.lt_succ_of_lt (h.2.1 b hb), fun m hm => ?_, fun a b c hab hb2 => ?_⟩
  · rw [List.length_set] at hm
    by_cases e : m = i
    · subst e
      rw [gd_set_at hi']
      refine ⟨kept2 ho hgy, fun b hb => ⟨?_, fun e3 => hgy b hb (by injection e3 with e3; exact e3.symm)⟩⟩
      rcases hat with e | e
      · have := ((h.2.2.1 m hm).2 b (by rw [← e]; exact hb)).1
        omega
      · rw [e] at hb; injection hb with hb; omega
    · rw [e1 m hm e]
      have h2 := h.2.2.1 m hm
      refine ⟨kept2 (h2.1.kept hg ?_) (fun b hbm e3 => (h2.2 b hbm).2 (by rw [e3]; rfl)), fun b hb => ⟨Nat.lt_succ_of_lt (h2.2 b hb).1, (h2.2 b hb).2⟩⟩
      cases hbm : (hv (gd l m)).ownBlock with
      | none => exact .inl rfl
      | some b =>
        refine .inr fun e2 => ?_
        rcases Nat.lt_or_gt_of_ne e with hlt | hlt
        · exact h.2.2.2 m i b hlt hi' hbm e2.symm
        · exact h.2.2.2 i m b hlt hm e2.symm hbm
  · rw [List.length_set] at hb2
    have bnd : ∀ m, m < l.length → ∀ q, (hv (gd l m)).ownBlock = some q → q < hi := fun m hm q hq => ((h.2.2.1 m hm).2 q hq).1
    by_cases ea : a = i
    · subst ea
      have hbi : b ≠ a := by omega
      rw [gd_set_at hi', e1 b hb2 hbi]
      intro hc hc2
      rcases hat with e | e
      · exact h.2.2.2 a b c hab hb2 (by rw [← e]; exact hc) hc2
      · rw [e] at hc; injection hc with hc
        have := bnd b hb2 c hc2
        omega
    · by_cases eb : b = i
      · subst eb
        rw [gd_set_at hi', e1 a (by omega) ea]
        intro hc hc2
        rcases hat with e | e
        · exact h.2.2.2 a b c hab hb2 hc (by rw [← e]; exact hc2)
        · rw [e] at hc2; injection hc2 with hc2
          have := bnd a (by omega) c hc
          omega
      · rw [e1 a (by omega) ea, e1 b hb2 eb]
        exact h.2.2.2 a b c hab hb2
end
theorem NOwn.tight {α β : Type} [Inhabited α] {tE tI : TypeId} {enc : α → List Value} {K : Nat} {encI : β → List Value} {hv : α → Value} {sub : α → List β} {w : World} {lo hi : Nat} {v : Value} {l : List α} (h : NOwn w lo hi tE enc K tI encI hv sub v l) : NOwn w lo w.heap.size tE enc K tI encI hv sub v l :=
  ⟨h.1, fun b hb => (h.1.bounds b hb).2, fun i hi' => ⟨(h.2.2.1 i hi').1, fun b hb => ⟨((h.2.2.1 i hi').1.bounds b hb).2, ((h.2.2.1 i hi').2 b hb).2⟩⟩, h.2.2.2⟩
/-- a call that hands back cards of its own, and a bool -/
def Crd.RetNB (w : World) (B : List Crd) (ok : Bool) (e : Ending) (w' : World) : Prop := ∃ (v' : Value) (l' : List Crd), e = .returned (.tuple #[v', .bool ok]) ∧ Crd.OwnN w' w.heap.size w'.heap.size v' l' ∧ l'.map Crd.bare = B ∧ Below w.heap.size w w'
theorem Crd.map_push {l l' : List Crd} {k : Nat} (hk : k < l.length) (h : l'.map Crd.bare = (l.take k).map Crd.bare) (y : Crd) (hy : y.bare = (gd l k).bare) : (l' ++ [y]).map Crd.bare = (l.take (k + 1)).map Crd.bare := by
  rw [take_succ_gd hk, List.map_append, List.map_append, h]
  simp [hy]
theorem aw_no {l : List Crd} {n : Int} {w : ByteArray} (h : areCrd l = false) : awG l n w = false ∧ awB l n w = [] := by
  have hg : awG l n w = false := by unfold awG; split <;> simp [h]
  refine ⟨hg, ?_⟩
  unfold awB
  split
  · rfl
  · rw [hg]; rfl
theorem awO_bare (f : List ByteArray → List ByteArray) (l : List Crd) (i k : Nat) : (awO f l i k).map Crd.bare = awO f l i k := by
  rw [awO, List.map_map]
  apply List.map_congr_left
  intro j _
  show (awAt f l i j).bare = awAt f l i j
  unfold awAt
  split <;> rfl
theorem awO_set {l l' : List Crd} (h : l'.map Crd.bare = l.map Crd.bare) {i : Nat} (hi : i < l.length) (f : List ByteArray → List ByteArray) (y : Crd) (hy : y.bare = awX f (gd l i)) : (l'.set i y).map Crd.bare = awO f l i l.length := by
  have hl : l'.length = l.length := by simpa using congrArg List.length h
  rw [← awO_bare f l i l.length]
  refine map_same (by rw [List.length_set, awO_len, hl]) (fun j hj => ?_)
  rw [awO_len] at hj
  rw [awO_at _ _ _ _ _ hj, awAt]
  by_cases e : i = j
  · subst e
    rw [gd_set_at (by omega), if_pos rfl, hy]
    rfl
  · rw [gd_set_ne e, if_neg (Ne.symm e), (map_same_at h j hj).2]
    rfl
theorem areCrd_bare {L O : List Crd} (h : L.map Crd.bare = O) : areCrd L = areCrd O := by
  refine areCrd_same ?_
  rw [← h, List.map_map]
  rfl
theorem awO_fits {l L : List Crd} {i : Nat} {wd : ByteArray} (hs : ∀ i, i < l.length → StrE.Fits (gd l i).sub) (hwd : wd.size ≤ maxLen) (hi : i < l.length) (h : L.map Crd.bare = awO (insW wd) l i l.length) : ∀ j, j < L.length → StrE.Fits (gd L j).sub := fun j hj => by
  have hl : L.length = l.length := by have := congrArg List.length h; simpa [awO_len] using this
  rw [← awO_bare] at h
  have e := (Crd.sub_eq (map_same_at h j (by rw [awO_len]; omega)).2).2.2
  rw [e, awO_at _ _ _ _ _ (by omega), awAt]
  split
  · rename_i e2
    subst e2
    intro m hm
    have hmem : gd (insW wd (gd l j).sub) m ∈ insW wd (gd l j).sub := gd_mem hm
    have := (sortS_perm ((gd l j).sub ++ [wd])).mem_iff.1 hmem
    show (gd (insW wd (gd l j).sub) m).size ≤ maxLen
    rw [List.mem_append, List.mem_singleton] at this
    rcases this with h1 | h1
    · obtain ⟨q, hq, e3⟩ := List.mem_iff_getElem.1 h1
      rw [← e3, ← gd_get hq]
      exact hs j hi q hq
    · rw [h1]; exact hwd
  · exact hs j (by omega)
set_option maxHeartbeats 8000000 in
set_option maxRecDepth 100000 in
theorem addWord_c (v : Value) (l : List Crd) (n : Int) (wd : ByteArray) (w : World) (h : Sl w Crd.enc 3 v l) (hd : Crd.Deep w l) (hs : ∀ i, i < l.length → StrE.Fits (gd l i).sub) (hwd : wd.size ≤ maxLen) : Calls Tryz.prog 6 #[v, .int .i64 n, .string wd] w (Crd.RetNB w (awB l n wd) (awG l n wd)) := by
  have HA := Lib.hid (fun W (hB : Below w.heap.size w W) => areCards_c v l W (h.mono hB) (hd.mono hB) hs)
  have HT := Lib.hid (fun W (hB : Below w.heap.size w W) => cardAt_c v l n W (h.mono hB))
  obtain ⟨i', hi', hz0, hz1, hz2⟩ := info_parts (show (Tryz.prog.info? 60).map (fun i => (i.zero, i.size, i.bytes)) = some (some (.agg #[.int .i64 0, .int .i64 0, .slice none 0 0]), 3, 40) by kernel_rfl)
  obtain ⟨s', hs', hy0, hy1, hy2⟩ := info_parts (show (Tryz.prog.info? 9).map (fun i => (i.zero, i.size, i.bytes)) = some (some (.string ByteArray.empty), 1, 16) by kernel_rfl)
  obtain ⟨a, cap, b, off, rfl, hlc, hm, hc⟩ := h
  unfold maxLen at hm
  cases hA : areCrd l with
  | false =>
    have hg := aw_no (n := n) (w := wd) hA
    rw [hg.1, hg.2]
    rw [hA] at HA
    replace HA := Lib.hid HA.out
    clear hg hA
    generalize idxInt (crdIdx l n) = q at HT
    go_enter Tryz.func6, Tryz.ntmps6
    go_wp2_with (first | (go_at_call 30; refine (HT.out _ (by repeat' (first | exact Below.refl _ _ | with_reducible assumption | refine bext ?_ ?_ _ | refine Below.alloc ?_ ?_ _ | refine Below.setCell ?_ ?_ _ | refine Below.drew ?_ | (simp; done) | (have hbz := hb.size; first | omega | (simp; omega)) | (simp; omega) | omega))).mono ?_; rintro e w' ⟨rfl, hbq⟩; obtain ⟨p, rfl⟩ := ext_of_below hbq; clear hbq) | (go_at_call 31; refine (HA.out _ (by repeat' (first | exact Below.refl _ _ | with_reducible assumption | refine bext ?_ ?_ _ | refine Below.alloc ?_ ?_ _ | refine Below.setCell ?_ ?_ _ | refine Below.drew ?_ | (simp; done) | (have hbz := hb.size; first | omega | (simp; omega)) | (simp; omega) | omega))).mono ?_; rintro e w' ⟨rfl, hbq⟩; obtain ⟨p, rfl⟩ := ext_of_below hbq; clear hbq))
    go_ret2
    exact ⟨_, [], rfl, NOwn.nil _ _ _, rfl, (by repeat' (first | exact Below.refl _ _ | with_reducible assumption | refine bext ?_ ?_ _ | refine Below.alloc ?_ ?_ _ | refine Below.setCell ?_ ?_ _ | refine Below.drew ?_ | (simp; done) | (have hbz := hb.size; first | omega | (simp; omega)) | (simp; omega) | omega))⟩
  | true =>
    cases hci : crdIdx l n with
    | none =>
      have hg : awG l n wd = false ∧ awB l n wd = [] := by
        unfold awB awG
        rw [hci]
        exact ⟨rfl, rfl⟩
      rw [hg.1, hg.2]
      rw [hA] at HA
      rw [hci, show idxInt none = -1 from rfl] at HT
      replace HA := Lib.hid HA.out
      replace HT := Lib.hid HT.out
      clear hg hA hci
      go_enter Tryz.func6, Tryz.ntmps6
      go_wp2_with (first | (go_at_call 30; refine (HT.out _ (by repeat' (first | exact Below.refl _ _ | with_reducible assumption | refine bext ?_ ?_ _ | refine Below.alloc ?_ ?_ _ | refine Below.setCell ?_ ?_ _ | refine Below.drew ?_ | (simp; done) | (have hbz := hb.size; first | omega | (simp; omega)) | (simp; omega) | omega))).mono ?_; rintro e w' ⟨rfl, hbq⟩; obtain ⟨p, rfl⟩ := ext_of_below hbq; clear hbq) | (go_at_call 31; refine (HA.out _ (by repeat' (first | exact Below.refl _ _ | with_reducible assumption | refine bext ?_ ?_ _ | refine Below.alloc ?_ ?_ _ | refine Below.setCell ?_ ?_ _ | refine Below.drew ?_ | (simp; done) | (have hbz := hb.size; first | omega | (simp; omega)) | (simp; omega) | omega))).mono ?_; rintro e w' ⟨rfl, hbq⟩; obtain ⟨p, rfl⟩ := ext_of_below hbq; clear hbq))
      go_ret2
      exact ⟨_, [], rfl, NOwn.nil _ _ _, rfl, (by repeat' (first | exact Below.refl _ _ | with_reducible assumption | refine bext ?_ ?_ _ | refine Below.alloc ?_ ?_ _ | refine Below.setCell ?_ ?_ _ | refine Below.drew ?_ | (simp; done) | (have hbz := hb.size; first | omega | (simp; omega)) | (simp; omega) | omega))⟩
    | some ci =>
      have hcl : ci < l.length := (findTo_spec hci).1
      have hImp := aw_imp (w := wd) hci hA
      obtain ⟨hI1, hI2⟩ := hImp
      replace hI1 := Lib.hid hI1
      replace hI2 := Lib.hid hI2
      generalize awB l n wd = B at hI2 ⊢
      generalize awG l n wd = ok at hI1 ⊢
      have h12 : l.length ≤ 12 := by have h1c := hA; simp [areCrd] at h1c; exact h1c.2
      have h6 : ∀ i, i < l.length → (gd l i).sub.length ≤ 6 := fun i hi => crd_six hA i hi
      rw [hA] at HA
      rw [hci, show idxInt (some ci) = (ci : Int) from rfl] at HT
      replace HA := Lib.hid HA.out
      replace HT := Lib.hid HT.out
      clear hA hci
      replace hd := Lib.hid hd
      replace h6 := Lib.hid h6
      have hc0 : decide ((ci : Int) < 0) = false := decide_eq_false (by omega)
      go_enter Tryz.func6, Tryz.ntmps6
      go_wp2_with (first | (go_at_call 30; refine (HT.out _ (by repeat' (first | exact Below.refl _ _ | with_reducible assumption | refine bext ?_ ?_ _ | refine Below.alloc ?_ ?_ _ | refine Below.setCell ?_ ?_ _ | refine Below.drew ?_ | (simp; done) | (have hbz := hb.size; first | omega | (simp; omega)) | (simp; omega) | omega))).mono ?_; rintro e w' ⟨rfl, hbq⟩; obtain ⟨p, rfl⟩ := ext_of_below hbq; clear hbq) | (go_at_call 31; refine (HA.out _ (by repeat' (first | exact Below.refl _ _ | with_reducible assumption | refine bext ?_ ?_ _ | refine Below.alloc ?_ ?_ _ | refine Below.setCell ?_ ?_ _ | refine Below.drew ?_ | (simp; done) | (have hbz := hb.size; first | omega | (simp; omega)) | (simp; omega) | omega))).mono ?_; rintro e w' ⟨rfl, hbq⟩; obtain ⟨p, rfl⟩ := ext_of_below hbq; clear hbq))
      refine wpAt fun W hW => ?_
      have BW : Below w.heap.size w W := by rw [hW]; exact (by repeat' (first | exact Below.refl _ _ | with_reducible assumption | refine bext ?_ ?_ _ | refine Below.alloc ?_ ?_ _ | refine Below.setCell ?_ ?_ _ | refine Below.drew ?_ | (simp; done) | (have hbz := hb.size; first | omega | (simp; omega)) | (simp; omega) | omega))
      clear hW HA HT
      go_loopw [9, 11, 24] (fun o _ i wr => ∃ (k : Nat) (l' : List Crd), k ≤ l.length ∧ i = .int .i64 k ∧ l'.length = k ∧ Hid (l'.map Crd.bare = (l.take k).map Crd.bare) ∧ Hid (Crd.OwnN wr w.heap.size wr.heap.size o l') ∧ Below w.heap.size w wr) (fun _ _ i _ => l.length - (intOf i).toNat)
      case atStart => exact ⟨0, [], Nat.zero_le _, rfl, rfl, Lib.hid rfl, NOwn.nil _ _ _, BW⟩
      case round =>
        obtain ⟨k, l', hk, rfl, hll, hbr, hO, hb⟩ := hrel
        by_cases hlt : k < l.length
        · obtain ⟨rfl, hbw, c0, c1, c2⟩ := Crd.at (hc.mono hb) k hlt
          have hsl := h6.out k hlt
          have A0 := below_alloc wr (.cells #[.int .i64 (gd l k).id, .int .i64 (gd l k).yr, .slice (gd l k).a (gd l k).sub.length (gd l k).cap] 60)
          have hC := Lib.hid (cloneStr_c _ (gd l k).sub _ (Sl.mono (((hd.out k hlt).mono hb)) A0) (by omega))
          go_wp2_with fail
          refine hC.out.mono ?_
          rintro e w2 ⟨v2, rfl, o2, b2⟩
          obtain ⟨a2, cap2, b2', off2, rfl, -, -, -⟩ := o2.sl StrE.len
          have hbx2 : wr.heap.size < w2.heap.size := Nat.lt_of_lt_of_le (by simp) b2.size
          have x0 : w2.cell? ⟨wr.heap.size, 0, none⟩ = some (.int .i64 (gd l k).id) := cellOn b2 (by simp)
          have x1 : w2.cell? ⟨wr.heap.size, 1, none⟩ = some (.int .i64 (gd l k).yr) := cellOn b2 (by simp)
          have x3 : w2.cell? ⟨wr.heap.size, 2, none⟩ = some (.slice (gd l k).a (gd l k).sub.length (gd l k).cap) := cellOn b2 (by simp)
          have z3 : w2.frozen? ⟨wr.heap.size, 2, none⟩ = false := (b2.frozen (p := ⟨wr.heap.size, 2, none⟩) (by simp)).trans (by simp)
          have NO := Lib.hid ((hO.out.mono A0).mono b2)
          have B2 := btrans (btrans hb A0) b2
          have hs2 : wr.heap.size + 1 ≤ w2.heap.size := by simpa using b2.size
          have hzb := hb.size
          have o2' : Own w2 (wr.heap.size + 1) 9 StrE.enc 1 (.slice a2 (gd l k).sub.length cap2) (gd l k).sub := by simpa using o2
          go_upto_region 9 with fail
          have hg3 : w2.grownBy (w2.setCell ⟨wr.heap.size, 2, none⟩ (.slice a2 (gd l k).sub.length cap2)) (some wr.heap.size) := only_setCell (World.grownBy.refl _ _) _ rfl _
          have y0 : (w2.setCell ⟨wr.heap.size, 2, none⟩ (.slice a2 (gd l k).sub.length cap2)).cell? ⟨wr.heap.size, 0, none⟩ = some (.int .i64 (gd l k).id) := by simp [go_sem, x0]
          have y1 : (w2.setCell ⟨wr.heap.size, 2, none⟩ (.slice a2 (gd l k).sub.length cap2)).cell? ⟨wr.heap.size, 1, none⟩ = some (.int .i64 (gd l k).yr) := by simp [go_sem, x1]
          have y3 : (w2.setCell ⟨wr.heap.size, 2, none⟩ (.slice a2 (gd l k).sub.length cap2)).cell? ⟨wr.heap.size, 2, none⟩ = some (.slice a2 (gd l k).sub.length cap2) := by simp [go_sem, x3]
          have B3 : Below w.heap.size w (w2.setCell ⟨wr.heap.size, 2, none⟩ (.slice a2 (gd l k).sub.length cap2)) := B2.setCell (by exact hzb) _
          generalize w2.setCell ⟨wr.heap.size, 2, none⟩ (.slice a2 (gd l k).sub.length cap2) = W3 at hg3 y0 y1 y3 B3 ⊢
          have N3 := Lib.hid (NO.out.turned (Turned.of_grown (lo := wr.heap.size) (hi := wr.heap.size + 1) hg3 (fun g hg => by injection hg with hg; omega)) (.inl (Nat.le_refl _)))
          have o3 : Own W3 (wr.heap.size + 1) 9 StrE.enc 1 (.slice a2 (gd l k).sub.length cap2) (gd l k).sub := o2'.kept hg3 (by
            cases hbk : Value.ownBlock _ with
            | none => exact .inl rfl
            | some g => exact .inr (fun e => by have := (o2'.bounds g hbk).1; injection e with e; omega))
          have o3b := o3.bounds
          replace o3 := Lib.hid o3
          clear o2'
          have hs3 : wr.heap.size + 1 ≤ W3.heap.size := Nat.le_trans hs2 hg3.size
          have hbw3 : wr.heap.size < W3.heap.size := hs3
          clear x0 x1 x3 z3 o2 hg3 b2 B2 NO hC hbx2 hO
          go_wp2_with (at_builtin; refine wpList_pushAt Crd.len Crd.one rfl _ _ 24 rfl w.heap.size 60 i' _ 40 Tryz.underlying24 hi' hz0 hz1 hz2 rfl (by omega) _ l' rfl (N3.out.own.mono (below_alloc _ _)) _ 1 { gd l k with a := a2, cap := cap2 } rfl (fun j u hu => new_cells _ (Crd.enc { gd l k with a := a2, cap := cap2 }) _ _ (by simp) j u hu) (by unfold maxLen; omega) (by omega) (by simp; omega) ?_)
          intro v' w5 ho5 hg5 hat5
          have N5 := Lib.hid ((N3.out.mono (below_alloc _ _)).push ho5 hg5 (by simpa using hat5) (by simp; omega) ((Own.mono o3.out (below_alloc _ _)).lower (by omega)) (fun b hb => by have := (o3b b hb).1; omega))
          have hb5 := below_push (lo := w.heap.size) (B := w.heap.size) (a := w) (B3.trans ((below_alloc _ _).mono B3.size)) (N3.out.own.mono (below_alloc _ _)) hg5 (Nat.le_refl _) (by simp; omega)
          have hbr5 := Lib.hid (Crd.map_push hlt hbr.out { gd l k with a := a2, cap := cap2 } rfl)
          clear ho5 hat5
          go_wp2_with fail
          go_roundw
          case rel => exact ⟨k + 1, _, by omega, by go_num, by simp [hll], hbr5.out, N5.out, hb5⟩
          case measure => simp [intOf]; omega
        · obtain rfl : k = l.length := by omega
          rw [List.take_length] at hbr
          obtain ⟨g, cap', rfl, hlo, hgw, hcc, hcm, hfz, hcc'⟩ := hO.out.own.form Crd.len (by omega)
          obtain ⟨-, -, -, -, d2⟩ := Crd.at hcc' ci (by omega)
          rw [Nat.zero_add] at d2
          unfold maxLen at hcm
          clear hcc' hfz
          have hcl' : ci < l'.length := by omega
          have hI := hO.out.inn ci hcl'
          have hbI := (hO.out.2.2.1 ci hcl').2
          have hidd := Crd.sub_eq (map_same_at hbr.out ci hcl).2
          have hsb6 := h6.out ci hcl
          rw [← hidd.2.2] at hsb6
          replace hidd := Lib.hid hidd
          have hX := Lib.hid (show gd l' ci = gd l' ci from rfl)
          generalize hXX : gd l' ci = X at d2 hI hbI hidd hsb6
          replace hXX := Lib.hid hXX
          have A1 := below_alloc wr (.cells #[.string wd] 9)
          have hIA := Lib.hid (Own.mono hI A1)
          have hOA := Lib.hid (hO.out.mono A1)
          have hneg : ∀ q, (Crd.hv X).ownBlock = some q → q ≠ g := fun q hq e => (hbI q hq).2 (by rw [e]; rfl)
          replace hneg := Lib.hid hneg
          clear hI hX
          go_wp2_with (at_builtin; refine wpList_pushAt StrE.len StrE.one rfl _ _ 33 rfl w.heap.size 9 s' _ 16 Tryz.underlying33 hs' hy0 hy1 hy2 rfl (by omega) _ X.sub rfl hIA.out _ 1 wd rfl (fun j u hu => new_cells _ [.string wd] _ _ (by simp) j u hu) (by unfold maxLen; omega) (by omega) (by have := hb.size; simp; omega) ?_)
          intro v3 w3 ho3 hg3 hat3
          obtain ⟨a3, cap3, b3, off3, rfl, -, -, -⟩ := ho3.sl StrE.len
          have hg3' : (wr.alloc (.cells #[.string wd] 9)).grownBy w3 (Crd.hv X).ownBlock := hg3
          have hO3 : Own w3 w.heap.size 60 Crd.enc 3 (.slice (some ⟨g, 0, none⟩) l'.length cap') l' := hOA.out.own.kept hg3' (.inr fun e => hneg.out g e.symm rfl)
          obtain ⟨g', cap'', hv', -, hgw3, -, -, hfz3, hcc3⟩ := hO3.form Crd.len (by omega)
          have eg : g = g' := by injection hv' with e1; injection e1 with e1; injection e1
          subst eg
          clear hv'
          obtain ⟨-, -, -, -, f2⟩ := Crd.at hcc3 ci hcl'
          rw [Nat.zero_add, hXX.out] at f2
          have zf := hfz3 (ci * 3 + 2)
          have N4 := NOwn.regrow Crd.len (hOA.out.wide (Nat.le_refl _) (Nat.le_succ _)) ci hcl' { X with a := a3, cap := cap3, sub := X.sub ++ [wd] } 2 (by omega) (.slice a3 (X.sub ++ [wd]).length cap3) (by rw [hXX.out]; rfl) (by rw [hXX.out]; rcases hat3 with e | e; exact .inl e; exact .inr e) ho3 (by rw [hXX.out]; exact hg3')
          have B3 : Below w.heap.size w w3 := (hb.trans (A1.mono hb.size)).grown hg3' (by have := hb.size; simp; omega) (fun q hq => (hIA.out.bounds q hq).1)
          have B4 := Lib.hid (B3.setCell (p := ⟨g, ci * 3 + 2, none⟩) (by show w.heap.size ≤ g; omega) (.slice a3 (X.sub ++ [wd]).length cap3))
          have hz3 := B3.size
          have hz3' := hg3'.size
          replace N4 := Lib.hid N4
          clear hfz3 hcc3 hO3 ho3 hg3 hg3' hat3 B3 hIA hOA d2
          go_upto_region 12 with fail
          refine wpAt fun W4 hW4 => ?_
          have hL : (X.sub ++ [wd]).length = X.sub.length + 1 := by simp
          have N4' : Crd.OwnN W4 w.heap.size (wr.heap.size + 1 + 1) (.slice (some ⟨g, 0, none⟩) l'.length cap') (l'.set ci { X with a := a3, cap := cap3, sub := X.sub ++ [wd] }) := by
            have := N4.out
            rw [hL] at this
            rw [hW4]; exact this
          have B4' : Below w.heap.size w W4 := by
            have := B4.out
            rw [hL] at this
            rw [hW4]; exact this
          have hz4 : wr.heap.size + 1 ≤ W4.heap.size := by rw [hW4]; simpa using hz3'
          clear hW4 N4 B4 f2 zf hz3'
          obtain ⟨g', cap'', hv', -, hgw4, -, -, -, hcc4⟩ := N4'.own.form Crd.len (by simp; omega)
          have eg : g = g' := by injection hv' with e1; injection e1 with e1; injection e1
          subst eg
          clear hv'
          obtain ⟨-, -, -, -, q2⟩ := Crd.at hcc4 ci (by simpa using hcl')
          rw [Nat.zero_add, gd_set_at hcl'] at q2
          dsimp only at q2
          have hN := N4'.innAt hcl'
          have HS := sortStr_c (.slice a3 (X.sub ++ [wd]).length cap3) (X.sub ++ [wd]) w.heap.size W4 hN.1 (by rw [hL]; omega)
          rw [hL] at HS q2
          replace HS := Lib.hid HS
          have hL2 := Lib.hid (show (sortS (X.sub ++ [wd])).length = X.sub.length + 1 by rw [sortS_len]; exact hL)
          replace hL := Lib.hid hL
          clear hcc4
          replace N4' := Lib.hid N4'
          go_wp2_with fail
          refine HS.out.mono ?_
          rintro e w5 ⟨rfl, o5, g5⟩
          have eh : Crd.hv { X with a := a3, cap := cap3, sub := sortS (X.sub ++ [wd]) } = .slice a3 (X.sub.length + 1) cap3 := by show Value.slice a3 (sortS (X.sub ++ [wd])).length cap3 = _; rw [hL2.out]
          have eh' : Crd.hv { X with a := a3, cap := cap3, sub := X.sub ++ [wd] } = .slice a3 (X.sub.length + 1) cap3 := by show Value.slice a3 (X.sub ++ [wd]).length cap3 = _; rw [hL.out]
          have N5 := N4'.out.innerAt hcl' { X with a := a3, cap := cap3, sub := sortS (X.sub ++ [wd]) } (by show [_, _, Crd.hv _] = [_, _, Crd.hv _]; rw [eh, eh']) (by rw [eh, eh']) (by rw [eh]; exact o5) (by rw [eh]; exact g5)
          have B5 : Below w.heap.size w w5 := B4'.grown g5 B4'.size (fun q hq => (hN.2 q (by rw [eh']; exact hq)).1)
          have hset := awO_set hbr.out hcl (insW wd) { X with a := a3, cap := cap3, sub := sortS (X.sub ++ [wd]) } (by
            obtain ⟨e1, e2, e3⟩ := hidd.out
            show (⟨X.id, X.yr, none, 0, sortS (X.sub ++ [wd])⟩ : Crd) = ⟨(gd l ci).id, (gd l ci).yr, none, 0, sortS ((gd l ci).sub ++ [wd])⟩
            rw [e1, e2, e3])
          have hfit := awO_fits hs hwd hcl hset
          have HA2 := areCards_c _ _ w5 (N5.own.sl Crd.len) (Crd.OwnN.deep N5) hfit
          rw [areCrd_bare hset, hll] at HA2
          have N6 := N5.tight
          rw [hll] at N6
          replace N6 := Lib.hid N6
          replace hll := Lib.hid hll
          replace hset := Lib.hid hset
          cases hO : areCrd (awO (insW wd) l ci l.length)
          all_goals
            rw [hO] at hI1 hI2 HA2
            replace HA2 := Lib.hid HA2
            obtain rfl := hI1.out
            clear hI1 hO N5 q2
            go_wp2_with fail
            refine HA2.out.mono ?_
            rintro e w6 ⟨rfl, b6⟩
            go_wp2_with fail
            go_ret2
          · exact ⟨_, [], rfl, NOwn.nil _ _ _, by rw [hI2.out]; rfl, btrans B5 b6⟩
          · exact ⟨_, _, rfl, (N6.out.mono b6).wide (Nat.le_refl _) b6.size, by rw [hI2.out, hset.out]; rfl, btrans B5 b6⟩
end Go.Proofs.YteainpflmofjaaaGreat
