/- The reference's Chain (fn 28). Printed by gen_n17.py. -/
import Derived.Test.YtkfeagokmcakgaaGreatDoorG02
import Derived.Test.YtkfeagokmcakgaaGreatDoorG07
import Derived.Test.YtkfeagokmcakgaaGreatDoorG13
import Derived.Test.YtkfeagokmcakgaaGreatDoorG17
import Derived.Test.YtkfeagokmcakgaaGreatDoorG27
import Derived.Test.YtkfeagokmcakgaaGreatDoorG37

set_option linter.unusedVariables false
set_option linter.unusedSimpArgs false

namespace Go.Proofs.YtkfeagokmcakgaaGreatDoor
open Go.RowKit

def slN : Value → Nat
  | .slice _ n _ => n
  | _ => 0
theorem ints_set (l : List Int) (j : Nat) (v : Int) : (ints l).set j (.int .i64 v) = ints (l.set j v) := by unfold ints; rw [List.map_set]
theorem snoc_set (D : List Int) (v : Int) {k : Nat} (hk : D.length = k) : (D ++ [-1]).set k v = D ++ [v] := by
  subst hk; simp
theorem take_map_snoc (G : List ByteArray) (f : ByteArray → Int) {k : Nat} (hk : k < G.length) : (G.take k).map f ++ [f G[k]] = (G.take (k + 1)).map f := by
  rw [← List.take_append_getElem hk, List.map_append]; rfl
theorem ownsSlice0 {w : World} {b : Nat} {e : TypeId} {size n : Nat} {v : Value} {xs : List Value} (h : w.ownsRow b e size v n xs) (hn : 0 < n) : ∃ g c, v = .slice (some ⟨g, 0, none⟩) n c ∧ b ≤ g ∧ g < w.heap.size ∧ n ≤ c := by
  obtain ⟨g, cap, hv, hb, hlt⟩ := h.form hn
  obtain ⟨A, c, rfl, h1, _⟩ := ownsSlice h
  cases hv
  exact ⟨g, _, rfl, hb, hlt, h1⟩
structure AtK (W : World) (A : Option Addr) (n c : Nat) (s : ByteArray) (v : Int) : Prop where
  run : ∀ V, Below W.heap.size W V → Calls Tryz.prog 78 #[.slice A n c, .string s] V (IntEnd v V)
theorem AtK.go {W V : World} {A : Option Addr} {n c : Nat} {s : ByteArray} {v : Int} (h : AtK W A n c s v) (hb : Below W.heap.size W V) : Calls Tryz.prog 78 #[.slice A n c, .string s] V (IntEnd v V) := h.run V hb
set_option maxRecDepth 100000 in
set_option maxHeartbeats 8000000 in
theorem rchain_any (l : List Rul) (A : Option Addr) (c : Nat) (known : Int) (x y : ByteArray) (w : World) (hl : Lies w w.heap.size A (rulesC l)) (hok : RulOK l) (hm : l.length ≤ 300) :
    Calls Tryz.prog 28 #[.agg #[.slice A l.length c], .int .i64 known, .string x, .string y] w (ChainE (cntL l known) x y w) := by
  have hb0 : Below w.heap.size w (w.alloc (.cells #[.slice A l.length c] 25)) := (Below.refl _ _).alloc (Nat.le_refl _) _
  have HC := Lib.hid (rcounting_any l A c known (w.alloc (.cells #[.slice A l.length c] 25)) (lies_on hl hb0) hok (by omega))
  have hmd := Nat.le_trans (cnt_len l known) hm
  have HB0 := Lib.hid hb0
  clear hl hok hb0
  generalize cntL l known = d at *
  obtain ⟨g, hg⟩ := dist_ex d y
  have HDI := Lib.hid hg
  clear hg
  by_cases hxy : x = y
  · subst hxy
    have hE : (x.toList == x.toList) = true := by rw [str_eq]; exact decide_eq_true rfl
    go_enter Tryz.func28, Tryz.ntmps28
    go_wp2_with (go_at_call 39; refine HC.out.mono ?_; rintro e w1 ⟨A1, c1, rfl, hl1, _, hb1⟩)
    refine bodyPost_ret (v := .tuple #[.slice none 0 0, .bool true]) (by simp [results, Tryz.results28, go_sem]) rfl ?_
    exact ⟨g, HDI.out, HB0.out.trans (hb1.mono HB0.out.size), by rw [HDI.out.own]; exact ⟨none, 0, rfl, fun h => absurd rfl h⟩⟩
  have hE : (x.toList == y.toList) = false := by rw [str_eq]; exact decide_eq_false hxy
  have HXY := Lib.hid hxy
  clear hxy
  have HRC := Lib.hid (HDI.out.reach (a := x))
  have HGI := Lib.hid (grps_iff d x y)
  have HGC := Lib.hid (grps_closed d x)
  have HGX := Lib.hid (grps_self d x)
  have HGN := Lib.hid (grps_nodup d x)
  have hgl : (grps d x).length ≤ 301 := by have := grps_len d x; omega
  have HG := Lib.hid (fun A' c' W hL => rgroups_any d A' c' x W hL (by omega))
  generalize grps d x = G at *
  go_enter Tryz.func28, Tryz.ntmps28
  go_upto_region 5 with (first | (go_at_call 39; refine HC.out.mono ?_; rintro e w1 ⟨A1, c1, rfl, hl1, _, hb1⟩) | (go_at_call 76; refine (HG.out _ _ _ hl1).mono ?_; rintro e w2 ⟨A2, c2, rfl, hl2, _, hb2⟩))
  have HBW2 : Hid (Below w.heap.size w w2) := (HB0.out.trans (hb1.mono HB0.out.size)).trans (hb2.mono (Nat.le_trans HB0.out.size hb1.size))
  have HLD2 := Lib.hid (lies_on hl1 hb2)
  have HLG2 := Lib.hid hl2
  have HHS := Lib.hid (rhas_any G A2 c2 y w2 hl2 (by unfold maxLen; omega))
  clear HC HB0 hl1 hl2 hb1 hb2 HG
  by_cases hyG : y ∈ G
  case neg =>
    rw [decide_eq_false hyG] at HHS
    have HNX : Hid (g x = none) := by
      show _ = _
      cases e : g x with
      | none => rfl
      | some n => exact absurd (HGI.out.2 (HRC.out.1 ⟨n, e⟩)) hyG
    clear HRC HGI HGC HGX HGN HLD2 HLG2 hyG
    go_wp2_with (go_at_call 77; refine HHS.out.mono ?_; rintro e w3 ⟨rfl, hb3⟩)
    refine bodyPost_ret (v := .tuple #[.slice none 0 0, .bool false]) (by simp [results, Tryz.results28, go_sem]) rfl ?_
    exact ⟨g, HDI.out, HBW2.out.trans (hb3.mono HBW2.out.size), by rw [HNX.out]⟩
  rw [decide_eq_true hyG] at HHS
  obtain ⟨n0, hn0⟩ := HRC.out.2 (HGI.out.1 hyG)
  have hq0b := dist_bound HDI.out HGC.out HGX.out hn0
  obtain ⟨q0, rfl⟩ := Int.eq_ofNat_of_zero_le (HDI.out.pos hn0)
  have HQ0 := Lib.hid hn0
  have hq0 : q0 ≤ 300 := by omega
  have hNp : 0 < G.length := by
    have := HGX.out
    exact List.length_pos_of_mem this
  clear HRC HGI hyG hn0 hq0b
  go_upto_region 8 with (go_at_call 77; refine HHS.out.mono ?_; rintro e w3 ⟨rfl, hb3⟩)
  have HBW : Hid (∀ V, Below w3.heap.size w3 V → Below w.heap.size w V) := fun V hV => (HBW2.out.trans (hb3.mono HBW2.out.size)).trans (hV.mono (Nat.le_trans HBW2.out.size hb3.size))
  have HLD : Hid (∀ V, Below w3.heap.size w3 V → Lies V V.heap.size A1 (rulesC d)) := fun V hV => lies_on (lies_on HLD2.out hb3) hV
  have HLG : Hid (∀ V, Below w3.heap.size w3 V → Lies V V.heap.size A2 (strsC G)) := fun V hV => lies_on (lies_on HLG2.out hb3) hV
  have HAT : Hid (∀ (W : World) (s : ByteArray) (v : Int), Below w3.heap.size w3 W → atS G s = v → AtK W A2 G.length c2 s v) := fun W s v hW hv => ⟨fun V hV => by subst hv; exact at_any G A2 c2 s V (lies_on (HLG.out W hW) hV) (by omega)⟩
  have hb33 : Below w3.heap.size w3 w3 := Below.refl _ _
  clear HHS HBW2 HLD2 HLG2 hb3
  have HF0 : Hid (∀ a, dv g d 0 0 a = if a = y then 0 else -1) := fun a => dv_zero HDI.out a
  have HF1 : Hid (∀ (n j : Nat) (hj : j < d.length) (a : ByteArray), dv g d n (j + 1) a = if d[j].kind = 5 ∧ dv g d n j d[j].y = (n : Int) ∧ dv g d n j d[j].x < 0 ∧ a = d[j].x then (n : Int) + 1 else dv g d n j a) := fun n j hj a => dv_step HDI.out hj a
  have HF2 : Hid (∀ n : Nat, dv g d n d.length = dv g d (n + 1) 0) := fun n => funext fun a => dv_round HDI.out a
  have HF3 : Hid (G.map (dv g d G.length 0) = G.map (fv g)) := List.map_congr_left fun a ha => dv_end HDI.out HGC.out ha
  generalize dv g d = F at *
  go_wp2
  go_loopw [12, 13] (fun v z wr => ∃ (k : Nat) (A' : Option Addr) (c' : Nat), k ≤ G.length ∧ v = .slice A' k c' ∧ z = .int .i64 k ∧ Hid (wr.ownsRow w3.heap.size 3 1 (.slice A' k c') k (ints ((G.take k).map (F 0 0)))) ∧ Below w3.heap.size w3 wr) (fun _ z _ => G.length - (intOf z).toNat)
  case atStart => exact ⟨0, none, 0, by omega, rfl, rfl, World.ownsRow_nil _ _ _ _, hb33⟩
  case round =>
    obtain ⟨k, A', c', hk, rfl, rfl, ho, hbw⟩ := hrel
    clear hb33
    have hbs := hbw.size
    by_cases hkl : k < G.length
    · obtain ⟨ag, rfl, _, z0⟩ := str_at (HLG.out wr hbw) hkl
      have HZ : Hid (∀ V, Below w3.heap.size w3 V → V.cell? (ag.add k) = some (.string G[k])) := fun V hV => by
        obtain ⟨a2, e2, _, h2⟩ := str_at (HLG.out V hV) hkl
        cases e2
        exact h2
      have HFK := Lib.hid (HF0.out G[k])
      have HTM := Lib.hid (take_map_snoc G (F 0 0) hkl)
      have HTL : Hid (((G.take k).map (F 0 0)).length = k) := by show _ = _; simp; omega
      generalize G[k] = s at *
      generalize F 0 0 s = f at *
      generalize (G.take k).map (F 0 0) = T at *
      clear HF0 HF1 HF2 HF3 HLD HLG HAT
      go_upto_region 12 with (at_builtin; refine wpList_append1g (P := Tryz.prog) rfl (.tmp 42) (.tmp 43) 42 rfl w3.heap.size 3 (.int .i64 0) 1 8 Tryz.underlying42 info3 (by decide) (by decide) (.slice A' k c') k (ints T) rfl (ho.out.alloc _) wr.heap.size #[.int .i64 (-1)] 3 rfl (Bk.new _ _ _) rfl ?c1 ?c2 (by decide) ?c3 ?_)
      case c1 => rfl
      case c2 => omega
      case c3 => first | omega | (simp; omega)
      intro v3 w4 ho3 hg3
      have hb4 : Below w3.heap.size w3 w4 := (hbw.alloc hbs _).grown hg3 (by simp; omega) (fun j hj => (ho.out.lt j hj).1)
      obtain ⟨g3, c3, rfl, hg3b, _, _⟩ := ownsSlice0 ho3 (by omega)
      have hsn3 : ints T ++ (#[Value.int .i64 (-1)] : Array Value).toList = ints (T ++ [-1]) := by simp [ints]
      rw [hsn3] at ho3
      have y0 := HZ.out w4 hb4
      by_cases hsy : s = y
      · have hE2 : (s.toList == y.toList) = true := by rw [str_eq]; exact decide_eq_true hsy
        have HFV : Hid (f = 0) := by show _ = _; rw [HFK.out, if_pos hsy]
        have hst := (ho3.stored k (.int .i64 0)).1
        have HST : Hid ((w4.setCell ⟨g3, k, none⟩ (.int .i64 0)).ownsRow w3.heap.size 3 1 (.slice (some ⟨g3, 0, none⟩) (k + 1) c3) (k + 1) (ints ((G.take (k + 1)).map (F 0 0)))) := by
          rw [ints_set, snoc_set T 0 HTL.out] at hst
          rw [← HTM.out, HFV.out]; exact hst
        obtain ⟨vo, xc⟩ : ∃ v, w4.cell? ⟨g3, k, none⟩ = some v := ⟨_, (ho3.cellAt k (by omega)).trans (List.getElem?_eq_getElem (by have := HTL.out; simp [ints]; omega))⟩
        have xf := ho3.frozenAt k
        clear ho3 hst HFK hsy HZ ho hg3 hsn3 HTM HTL
        go_wp2
        clear xc xf
        go_roundw
        case rel => exact ⟨k + 1, some ⟨g3, 0, none⟩, c3, by omega, rfl, by go_num, HST, hb4.setCell (p := ⟨g3, k, none⟩) hg3b _⟩
        case measure => simp [intOf]; omega
      · have hE2 : (s.toList == y.toList) = false := by rw [str_eq]; exact decide_eq_false hsy
        have HST : Hid (w4.ownsRow w3.heap.size 3 1 (.slice (some ⟨g3, 0, none⟩) (k + 1) c3) (k + 1) (ints ((G.take (k + 1)).map (F 0 0)))) := by
          rw [← HTM.out, HFK.out, if_neg hsy]; exact ho3
        clear ho3 HFK hsy HZ ho hg3 hsn3 HTM HTL
        go_wp2
        go_roundw
        case rel => exact ⟨k + 1, some ⟨g3, 0, none⟩, c3, by omega, rfl, by go_num, HST, hb4⟩
        case measure => simp [intOf]; omega
    · obtain rfl : k = G.length := by omega
      rw [List.take_length] at ho
      obtain ⟨gd, cd, hv, hgdb, hgdl, _⟩ := ownsSlice0 ho.out hNp
      obtain ⟨rfl, rfl⟩ : some ⟨gd, 0, none⟩ = A' ∧ cd = c' := by cases hv; exact ⟨rfl, rfl⟩
      clear hv
      have HO := ho
      clear ho HF0
      go_wp2
      go_loopw [14] (fun z wr => ∃ n : Nat, n ≤ G.length ∧ z = .int .i64 n ∧ Hid (wr.ownsRow w3.heap.size 3 1 (.slice (some ⟨gd, 0, none⟩) G.length cd) G.length (ints (G.map (F n 0)))) ∧ Below w3.heap.size w3 wr) (fun z _ => G.length - (intOf z).toNat)
      case atStart => exact ⟨0, by omega, rfl, HO, hbw⟩
      case round =>
        obtain ⟨n, hn, rfl, ho, hbv⟩ := hrel
        clear HO hbw hbs
        by_cases hnl : n < G.length
        · go_wp2
          go_loopw [15] (fun z wr => ∃ j : Nat, j ≤ d.length ∧ z = .int .i64 j ∧ Hid (wr.ownsRow w3.heap.size 3 1 (.slice (some ⟨gd, 0, none⟩) G.length cd) G.length (ints (G.map (F n j)))) ∧ Below w3.heap.size w3 wr) (fun z _ => d.length - (intOf z).toNat)
          case atStart => exact ⟨0, by omega, rfl, ho, hbv⟩
          case round =>
            clear ho hbv
            obtain ⟨j, hj, rfl, ho, hbw⟩ := hrel
            have hbs := hbw.size
            by_cases hjl : j < d.length
            · obtain ⟨ad, rfl, _, d0, d1, d2, d3, d4, d5⟩ := rule_at (HLD.out wr hbw) hjl
              have HD : Hid (∀ V, Below w3.heap.size w3 V → V.cell? ⟨(ad.add (j * 6)).block, (ad.add (j * 6)).off + 2, none⟩ = some (.int .u8 d[j].kind) ∧ V.cell? ⟨(ad.add (j * 6)).block, (ad.add (j * 6)).off + 3, none⟩ = some (.string d[j].x) ∧ V.cell? ⟨(ad.add (j * 6)).block, (ad.add (j * 6)).off + 4, none⟩ = some (.string d[j].y)) := fun V hV => by
                obtain ⟨a2, e2, _, _, _, h2, h3, h4, _⟩ := rule_at (HLD.out V hV) hjl
                cases e2
                exact ⟨h2, h3, h4⟩
              have HS := Lib.hid (HF1.out n j hjl)
              have HCL := Lib.hid (HGC.out _ (List.getElem_mem hjl))
              have HNX := Lib.hid (fun (h : ∀ a ∈ G, F n (j + 1) a = F n j a) => (show Hid (ints (G.map (F n j)) = ints (G.map (F n (j + 1)))) from congrArg ints (List.map_congr_left fun a ha => (h a ha).symm)))
              have HPL : Hid (∀ (V : World) (i : Nat) (hi : i < G.length), V.ownsRow w3.heap.size 3 1 (.slice (some ⟨gd, 0, none⟩) G.length cd) G.length (ints (G.map (F n j))) → V.cell? ⟨gd, i, none⟩ = some (.int .i64 (F n j G[i]))) := fun V i hi hV => (hV.cellAt i (by omega)).trans (by simp [ints, List.getElem?_eq_getElem hi])
              clear d0 d1 d5 HF1 HF2 HF3 HLD HLG
              generalize d[j] = r at *
              obtain ⟨id, kn, kd, rx, ry, of⟩ := r
              dsimp only at *
              by_cases h5 : kd = 5
              case neg =>
                have e5 : (kd != 5) = true := by simpa using h5
                have HSK := Lib.hid (HNX.out (fun a _ => by rw [HS.out, if_neg (fun h => h5 h.1)]))
                have HO2 : Hid (wr.ownsRow w3.heap.size 3 1 (.slice (some ⟨gd, 0, none⟩) G.length cd) G.length (ints (G.map (F n (j + 1))))) := by rw [← HSK.out.out]; exact ho.out
                clear HS HCL HNX HPL HD h5 HSK ho HAT d3 d4
                go_wp2
                go_roundw
                case rel => exact ⟨j + 1, by omega, by go_num, HO2, hbw⟩
                case measure => simp [intOf]; omega
              have e5 : (kd != 5) = false := by rw [h5]; rfl
              by_cases hxG : rx ∈ G
              case neg =>
                have q1 := HAT.out wr rx _ hbw (atS_out hxG)
                have q2 := HAT.out wr ry _ hbw rfl
                have HSK := Lib.hid (HNX.out (fun a ha => by rw [HS.out]; exact if_neg (fun h => hxG (by rw [← h.2.2.2]; exact ha))))
                have HO2 : Hid (wr.ownsRow w3.heap.size 3 1 (.slice (some ⟨gd, 0, none⟩) G.length cd) G.length (ints (G.map (F n (j + 1))))) := by rw [← HSK.out.out]; exact ho.out
                have hb0 : Below wr.heap.size wr wr := Below.refl _ _
                generalize atS G ry = R2 at *
                clear HS HCL HNX HPL h5 HSK ho HAT hxG
                go_wp2_with (first | (go_at_call 78; refine (AtK.go q1 (by assumption)).mono ?_; rintro e u1 ⟨rfl, hb⟩; have hb1 := hb; obtain ⟨s2, s3, s4⟩ := HD.out u1 (hbw.trans (hb.mono hbs)); clear hb q1) | (go_at_call 78; refine (AtK.go q2 (by assumption)).mono ?_; rintro e u2 ⟨rfl, hb⟩; have hb2 : Below wr.heap.size wr u2 := hb1.trans (hb.mono hb1.size); clear hb q2))
                go_roundw
                case rel => exact ⟨j + 1, by omega, by go_num, ownsRow_below HO2.out hb2 (Nat.le_refl _), hbw.trans (hb2.mono hbs)⟩
                case measure => simp [intOf]; omega
              have hyG := HCL.out h5 hxG
              obtain ⟨i, hi, hGi, hati⟩ := atS_in hxG
              obtain ⟨k, hk2, hGk, hatk⟩ := atS_in hyG
              have q1 := HAT.out wr rx _ hbw hati
              have q2 := HAT.out wr ry _ hbw hatk
              have HCI := Lib.hid (fun V hV => HPL.out V i hi hV)
              have HCK := Lib.hid (fun V hV => HPL.out V k hk2 hV)
              rw [hGi] at HCI
              rw [hGk] at HCK
              have HMS := Lib.hid (map_set HGN.out (F n j) hi ((n : Int) + 1))
              rw [hGi] at HMS
              have HUP : Hid (kd = 5 → F n j ry = (n : Int) → F n j rx < 0 → (ints (G.map (F n j))).set i (.int .i64 ((n : Int) + 1)) = ints (G.map (F n (j + 1)))) := fun h5 h1 h2 => by
                rw [ints_set, HMS.out]
                congr 1
                refine List.map_congr_left fun a _ => ?_
                rw [HS.out]
                by_cases ha : a = rx
                · rw [if_pos ha, if_pos ⟨h5, h1, h2, ha⟩]
                · rw [if_neg ha, if_neg (fun h => ha h.2.2.2)]
              have HSK := Lib.hid (fun (h : ¬ (F n j ry = (n : Int) ∧ F n j rx < 0)) => HNX.out (fun a _ => by rw [HS.out, if_neg (fun h' => h ⟨h'.2.1, h'.2.2.1⟩)]))
              have H5 := Lib.hid h5
              have hb0 : Below wr.heap.size wr wr := Below.refl _ _
              have hiI : (i : Int) < (G.length : Int) := by omega
              have hkI : (k : Int) < (G.length : Int) := by omega
              have h0i : (0 : Int) ≤ (i : Int) := by omega
              have h0k : (0 : Int) ≤ (k : Int) := by omega
              have W1 : IntKind.i64.wrap ((n : Int) + 1) = (n : Int) + 1 := IntWalk.i64_in _ (by omega)
              have HW1 := Lib.hid W1
              clear hGi hGk hati hatk HMS HS HNX HPL hxG hyG HCL W1 h5 HAT
              generalize F n j rx = p at *
              generalize F n j ry = q at *
              by_cases hqn : q = (n : Int)
              · have hqb : (q == (n : Int)) = true := by rw [hqn]; simp
                by_cases hp0 : p < 0
                · have HU := Lib.hid (HUP.out H5.out hqn hp0)
                  have HOR := ho
                  clear HUP HSK hqn ho H5
                  go_upto_region 24 with (first | (go_at_call 78; refine (AtK.go q1 (by assumption)).mono ?_; rintro e u1 ⟨rfl, hb⟩; have hb1 := hb; obtain ⟨s2, s3, s4⟩ := HD.out u1 (hbw.trans (hb.mono hbs)); clear hb q1) | (go_at_call 78; refine (AtK.go q2 (by assumption)).mono ?_; rintro e u2 ⟨rfl, hb⟩; have hb2 : Below wr.heap.size wr u2 := hb1.trans (hb.mono hb1.size); have ho2 := Lib.hid (ownsRow_below HOR.out hb2 (Nat.le_refl _)); have ti := HCI.out u2 ho2.out; have tk9 := HCK.out u2 ho2.out; clear hb q2))
                  have hst := (ho2.out.stored i (.int .i64 ((n : Int) + 1))).1
                  rw [HU.out] at hst
                  have HST := Lib.hid hst
                  have xf := ho2.out.frozenAt i
                  have hbF : Below w3.heap.size w3 u2 := hbw.trans (hb2.mono hbs)
                  have hw1 := HW1.out
                  clear hst ho2 HU HCI HCK tk9 HD
                  go_wp2
                  clear ti xf
                  go_roundw
                  case rel => exact ⟨j + 1, by omega, by go_num, HST, hbF.setCell (p := ⟨gd, i, none⟩) hgdb _⟩
                  case measure => simp [intOf]; omega
                · have HO2 : Hid (wr.ownsRow w3.heap.size 3 1 (.slice (some ⟨gd, 0, none⟩) G.length cd) G.length (ints (G.map (F n (j + 1))))) := by rw [← (HSK.out (fun h => hp0 h.2)).out]; exact ho.out
                  have HOR := ho
                  clear HUP HSK hqn ho H5 HW1
                  go_wp2_with (first | (go_at_call 78; refine (AtK.go q1 (by assumption)).mono ?_; rintro e u1 ⟨rfl, hb⟩; have hb1 := hb; obtain ⟨s2, s3, s4⟩ := HD.out u1 (hbw.trans (hb.mono hbs)); clear hb q1) | (go_at_call 78; refine (AtK.go q2 (by assumption)).mono ?_; rintro e u2 ⟨rfl, hb⟩; have hb2 : Below wr.heap.size wr u2 := hb1.trans (hb.mono hb1.size); have ho2 := Lib.hid (ownsRow_below HOR.out hb2 (Nat.le_refl _)); have ti := HCI.out u2 ho2.out; have tk9 := HCK.out u2 ho2.out; clear hb q2))
                  go_roundw
                  case rel => exact ⟨j + 1, by omega, by go_num, ownsRow_below HO2.out hb2 (Nat.le_refl _), hbw.trans (hb2.mono hbs)⟩
                  case measure => simp [intOf]; omega
              · have hqb : (q == (n : Int)) = false := by simpa using hqn
                have HO2 : Hid (wr.ownsRow w3.heap.size 3 1 (.slice (some ⟨gd, 0, none⟩) G.length cd) G.length (ints (G.map (F n (j + 1))))) := by rw [← (HSK.out (fun h => hqn h.1)).out]; exact ho.out
                have HOR := ho
                clear HUP HSK hqn ho H5 HW1
                go_wp2_with (first | (go_at_call 78; refine (AtK.go q1 (by assumption)).mono ?_; rintro e u1 ⟨rfl, hb⟩; have hb1 := hb; obtain ⟨s2, s3, s4⟩ := HD.out u1 (hbw.trans (hb.mono hbs)); clear hb q1) | (go_at_call 78; refine (AtK.go q2 (by assumption)).mono ?_; rintro e u2 ⟨rfl, hb⟩; have hb2 : Below wr.heap.size wr u2 := hb1.trans (hb.mono hb1.size); have ho2 := Lib.hid (ownsRow_below HOR.out hb2 (Nat.le_refl _)); have ti := HCI.out u2 ho2.out; have tk9 := HCK.out u2 ho2.out; clear hb q2))
                go_roundw
                case rel => exact ⟨j + 1, by omega, by go_num, ownsRow_below HO2.out hb2 (Nat.le_refl _), hbw.trans (hb2.mono hbs)⟩
                case measure => simp [intOf]; omega
            · obtain rfl : j = d.length := by omega
              have HO2 : Hid (wr.ownsRow w3.heap.size 3 1 (.slice (some ⟨gd, 0, none⟩) G.length cd) G.length (ints (G.map (F (n + 1) 0)))) := by rw [← HF2.out]; exact ho.out
              clear ho HF1 HF2 HF3 HLD HLG HAT
              go_wp2
              go_roundw
              case rel => exact ⟨n + 1, by omega, by go_num, HO2, hbw⟩
              case measure => simp [intOf]; omega
        · obtain rfl : n = G.length := by omega
          rw [HF3.out] at ho
          have HCV : Hid (∀ V, Below wr.heap.size wr V → ∀ (i : Nat) (hi : i < G.length), V.cell? ⟨gd, i, none⟩ = some (.int .i64 (fv g G[i]))) := fun V hV i hi => ((ownsRow_below ho.out hV (Nat.le_refl _)).cellAt i (by omega)).trans (by simp [ints, List.getElem?_eq_getElem hi])
          clear HF1 HF2 HF3 ho
          have HBE : Hid (∀ V, Below wr.heap.size wr V → Below w.heap.size w V) := fun V hV => HBW.out V (hbv.trans (hV.mono hbv.size))
          have HLE : Hid (∀ V, Below wr.heap.size wr V → Lies V V.heap.size A1 (rulesC d)) := fun V hV => HLD.out V (hbv.trans (hV.mono hbv.size))
          have HAE : Hid (∀ (W : World) (s : ByteArray) (v : Int), Below wr.heap.size wr W → atS G s = v → AtK W A2 G.length c2 s v) := fun W s v hW hv => HAT.out W s v (hbv.trans (hW.mono hbv.size)) hv
          have hba : Below wr.heap.size wr wr := Below.refl _ _
          clear HBW HLD HLG HAT hbv HGN
          generalize hwa : wr = wa at *
          clear hwa
          go_wp2
          go_loopw [18, 19] (fun vo vz wr => ∃ (p : Nat) (z : ByteArray) (L : List Int) (A' : Option Addr) (c' : Nat), vo = .slice A' L.length c' ∧ vz = .string z ∧ Hid (wr.ownsRow wa.heap.size 3 1 (.slice A' L.length c') L.length (ints L)) ∧ Hid (L ++ chn d g p z = chn d g q0 x) ∧ Hid (g z = some (p : Int)) ∧ Hid (z ∈ G) ∧ L.length + p = q0 ∧ Below wa.heap.size wa wr) (fun vo _ _ => q0 - slN vo)
          case atStart => exact ⟨q0, x, [], none, 0, rfl, rfl, World.ownsRow_nil _ _ _ _, (by show _ = _; simp), HQ0, HGX, by simp, hba⟩
          case round =>
            obtain ⟨p, z, L, A', c', rfl, rfl, ho, hL, hz, hzG, hLp, hbw⟩ := hrel
            clear hba
            cases p with
            | zero =>
              have hzy : z = y := HDI.out.zero hz.out
              have hE2 : (z.toList == y.toList) = true := by rw [str_eq]; exact decide_eq_true hzy
              have hE3 : (z.toList != y.toList) = false := by rw [bne, hE2]; rfl
              have HEND : Hid (ChainE d x y w (.returned (.tuple #[.slice A' L.length c', .bool true])) wr) := by
                refine ⟨g, HDI.out, HBE.out wr hbw, ?_⟩
                have e : L = chn d g q0 x := by have := hL.out; simpa [chn] using this
                rw [HQ0.out]
                refine ⟨A', c', ?_, ?_⟩
                · rw [e]; rfl
                · have := ownsRow_lies ho.out
                  rw [e] at this; exact this
              clear ho hL hz hzG hzy HCV HLE HAE HBE
              go_wp2
              refine bodyPost_ret (v := .tuple #[.slice A' L.length c', .bool true]) (by simp [results, Tryz.results28, go_sem]) rfl ?_
              exact HEND.out
            | succ q =>
              have hzy : z ≠ y := fun e => by
                have h := HDI.out.own
                rw [← e, hz.out] at h
                injection h with h
                omega
              have hE2 : (z.toList == y.toList) = false := by rw [str_eq]; exact decide_eq_false hzy
              have hE3 : (z.toList != y.toList) = true := by rw [bne, hE2]; rfl
              obtain ⟨i, hi, hGi, hati⟩ := atS_in hzG.out
              have HCI : Hid (∀ V, Below wa.heap.size wa V → V.cell? ⟨gd, i, none⟩ = some (.int .i64 ((q + 1 : Nat) : Int))) := fun V hV => by
                have h := HCV.out V hV i hi
                rw [hGi] at h
                unfold fv at h; rw [hz.out] at h; exact h
              have HATI := Lib.hid hati
              have hiI : (i : Int) < (G.length : Int) := by omega
              have h0i : (0 : Int) ≤ (i : Int) := by omega
              clear hGi hati hzy
              go_wp2
              go_loopw [18, 19, 20, 21] (fun vo vz vb u wr => ∃ (j : Nat) (b : Bool) (L2 : List Int) (z2 : ByteArray) (A' : Option Addr) (c' : Nat), j ≤ d.length ∧ vo = .slice A' L2.length c' ∧ vz = .string z2 ∧ vb = .bool b ∧ u = .int .i64 j ∧ Hid (wr.ownsRow wa.heap.size 3 1 (.slice A' L2.length c') L2.length (ints L2)) ∧ Hid (b = false → L = L2 ∧ z = z2 ∧ ∀ j' (h : j' < d.length), j' < j → chM g q z d[j'] = false) ∧ Hid (b = true → L2 ++ chn d g q z2 = chn d g q0 x ∧ g z2 = some (q : Int) ∧ z2 ∈ G ∧ L2.length = L.length + 1) ∧ Below wa.heap.size wa wr) (fun _ _ _ u _ => d.length - (intOf u).toNat)
              case atStart => exact ⟨0, false, L, z, A', c', by omega, rfl, rfl, rfl, rfl, ho, (fun _ => ⟨rfl, rfl, fun j' _ h => absurd h (by omega)⟩), (fun h => (by cases h)), hbw⟩
              case round =>
                clear ho hbw
                obtain ⟨j, b, L2, z2, A3, c3, hj, rfl, rfl, rfl, rfl, ho, hF, hT, hbw⟩ := hrel
                have hbs := hbw.size
                by_cases hjl : j < d.length
                · cases b
                  case true =>
                    have hj1 : (j : Int) < (d.length : Int) := by omega
                    clear hF HCV HLE HAE HCI HBE
                    go_wp2
                    go_roundw
                    case rel => exact ⟨j + 1, true, L2, z2, A3, c3, by omega, rfl, rfl, rfl, by go_num, ho, (fun h => (by cases h)), hT, hbw⟩
                    case measure => simp [intOf]; omega
                  obtain ⟨rfl, rfl, hno⟩ := hF.out rfl
                  obtain ⟨ad, rfl, _, d0, d1, d2, d3, d4, d5⟩ := rule_at (HLE.out wr hbw) hjl
                  have HD : Hid (∀ V, Below wa.heap.size wa V → V.cell? (ad.add (j * 6)) = some (.int .i64 d[j].id) ∧ V.cell? ⟨(ad.add (j * 6)).block, (ad.add (j * 6)).off + 2, none⟩ = some (.int .u8 d[j].kind) ∧ V.cell? ⟨(ad.add (j * 6)).block, (ad.add (j * 6)).off + 3, none⟩ = some (.string d[j].x) ∧ V.cell? ⟨(ad.add (j * 6)).block, (ad.add (j * 6)).off + 4, none⟩ = some (.string d[j].y)) := fun V hV => by
                    obtain ⟨a2, e2, _, h0, _, h2, h3, h4, _⟩ := rule_at (HLE.out V hV) hjl
                    cases e2
                    exact ⟨h0, h2, h3, h4⟩
                  have HSK : Hid (chM g q z d[j] = false → ∀ j' (h : j' < d.length), j' < j + 1 → chM g q z d[j'] = false) := fun h j' hj' hjk => by
                    by_cases e : j' = j
                    · subst e; exact h
                    · exact hno j' hj' (by omega)
                  have HHT := Lib.hid (fun h => chn_hit hjl hno h)
                  have HCL := Lib.hid (HGC.out _ (List.getElem_mem hjl))
                  clear hF hT hno HLE d1 d5
                  generalize d[j] = r at *
                  have HCM : Hid (chM g q z r = (decide (r.kind = 5) && decide (r.x = z) && decide (g r.y = some (q : Int)))) := rfl
                  obtain ⟨id, kn, kd, rx, ry, of⟩ := r
                  dsimp only at *
                  by_cases h5 : kd = 5
                  case neg =>
                    have e5 : (kd != 5) = true := by simpa using h5
                    have HS2 := Lib.hid (HSK.out (by rw [HCM.out]; simp [h5]))
                    clear HSK HHT HCL HCM HD h5 HCV HCI HAE
                    go_wp2
                    go_roundw
                    case rel => exact ⟨j + 1, false, L, z, A3, c3, by omega, rfl, rfl, rfl, by go_num, ho, (fun _ => ⟨rfl, rfl, HS2.out⟩), (fun h => (by cases h)), hbw⟩
                    case measure => simp [intOf]; omega
                  have e5 : (kd != 5) = false := by rw [h5]; rfl
                  by_cases hxz : rx = z
                  case neg =>
                    have E1 : (rx.toList == z.toList) = false := by rw [str_eq]; exact decide_eq_false hxz
                    have E2 : (rx.toList != z.toList) = true := by rw [bne, E1]; rfl
                    have HS2 := Lib.hid (HSK.out (by rw [HCM.out]; simp [hxz]))
                    clear HSK HHT HCL HCM HD h5 HCV HCI HAE hxz
                    go_wp2
                    go_roundw
                    case rel => exact ⟨j + 1, false, L, z, A3, c3, by omega, rfl, rfl, rfl, by go_num, ho, (fun _ => ⟨rfl, rfl, HS2.out⟩), (fun h => (by cases h)), hbw⟩
                    case measure => simp [intOf]; omega
                  have E1 : (rx.toList == z.toList) = true := by rw [str_eq]; exact decide_eq_true hxz
                  have E2 : (rx.toList != z.toList) = false := by rw [bne, E1]; rfl
                  have hyG := HCL.out h5 (by rw [hxz]; exact hzG.out)
                  obtain ⟨k, hk2, hGk, hatk⟩ := atS_in hyG
                  have q1 := HAE.out wr z _ hbw HATI.out
                  have q2 := HAE.out wr ry _ hbw hatk
                  have HYG := Lib.hid hyG
                  have HCK := Lib.hid (fun V hV => HCV.out V hV k hk2)
                  rw [hGk] at HCK
                  unfold fv at HCK
                  have hkI : (k : Int) < (G.length : Int) := by omega
                  have h0k : (0 : Int) ≤ (k : Int) := by omega
                  have hb0 : Below wr.heap.size wr wr := Below.refl _ _
                  clear hGk hatk hyG HCL HAE HCV
                  cases hgy : g ry with
                  | none =>
                    have HS2 := Lib.hid (HSK.out (by rw [HCM.out, hgy]; simp))
                    rw [hgy] at HCK
                    have HCK : Hid (∀ V, Below wa.heap.size wa V → V.cell? ⟨gd, k, none⟩ = some (.int .i64 (-1))) := HCK
                    clear HSK HHT HCM h5 hxz hgy q1
                    go_upto_region 34 with (go_at_call 78; refine (AtK.go q2 (by assumption)).mono ?_; rintro e u2 ⟨rfl, hb2⟩; have hbu : Below wa.heap.size wa u2 := hbw.trans (hb2.mono hbs); clear q2)
                    refine wp_region_held_drew (S := fun V => V.cell? ⟨gd, k, none⟩ = some (.int .i64 (-1))) (by kernel_rfl) ?_ (fun hHeld => ?_)
                    · exact HCK.out _ hbu.drew
                    refine tk 0 147 ?_
                    refine tk 1 148 ?_
                    refine tk 2 149 ?_
                    refine tk 3 150 ?_
                    refine tk 4 151 ?_
                    refine tk 5 152 ?_
                    refine sk 6 153 ?_
                    refine sk 7 154 ?_
                    refine sk 8 155 ?_
                    refine sk 9 156 ?_
                    refine sk 10 157 ?_
                    refine sk 11 158 ?_
                    refine sk 12 159 ?_
                    refine sk 13 160 ?_
                    refine sk 14 161 ?_
                    refine sk 15 162 ?_
                    refine sk 16 163 ?_
                    refine sk 17 164 ?_
                    refine tk 18 165 ?_
                    refine wpAnyH_done (by kernel_rfl) ?_ _
                    clear hHeld
                    have ho3 := Lib.hid (show u2.drew.ownsRow wa.heap.size 3 1 (.slice A3 L.length c3) L.length (ints L) from ownsRow_below ho.out hb2.drew (Nat.le_refl _))
                    have hbf : Below wa.heap.size wa u2.drew := hbu.drew
                    clear HCK HD HCI ho
                    go_wp2
                    go_roundw
                    case rel => exact ⟨j + 1, false, L, z, A3, c3, by omega, rfl, rfl, rfl, by go_num, ho3, (fun _ => ⟨rfl, rfl, HS2.out⟩), (fun h => (by cases h)), hbf⟩
                    case measure => simp [intOf]; omega
                  | some m =>
                    have hm0 : 0 ≤ m := HDI.out.pos hgy
                    rw [hgy] at HCK
                    have HCK : Hid (∀ V, Below wa.heap.size wa V → V.cell? ⟨gd, k, none⟩ = some (.int .i64 m)) := HCK
                    have hw1 : IntKind.i64.wrap (q : Int) = (q : Int) := IntWalk.i64_in _ (by omega)
                    have HYN : Hid (m = (q : Int) → L ++ id :: chn d g q ry = chn d g q0 x ∧ g ry = some (q : Int)) := fun h => ⟨by rw [← hL.out, HHT.out (by rw [HCM.out, hgy, h]; simp [h5, hxz])], by rw [hgy, h]⟩
                    have HS2 := Lib.hid (fun (h : m ≠ (q : Int)) => HSK.out (by rw [HCM.out, hgy]; simp [h]))
                    clear HSK HHT HCM h5 hxz hgy
                    go_upto_region 34 with (go_at_call 78; refine (AtK.go q2 (by assumption)).mono ?_; rintro e u2 ⟨rfl, hb2⟩; have hbu : Below wa.heap.size wa u2 := hbw.trans (hb2.mono hbs); clear q2)
                    by_cases hmq : m = (q : Int)
                    · have hmb : (m == (q : Int)) = true := by rw [hmq]; simp
                      have HY := Lib.hid (HYN.out hmq)
                      clear HYN HS2 hmq
                      refine wp_region_held_drew (S := fun V => V.cell? ⟨gd, k, none⟩ = some (.int .i64 m) ∧ V.cell? ⟨gd, i, none⟩ = some (.int .i64 ((q + 1 : Nat) : Int))) (by kernel_rfl) ?_ (fun hHeld => ?_)
                      · exact ⟨HCK.out _ hbu.drew, HCI.out _ hbu.drew⟩
                      refine tk 0 147 ?_
                      refine tk 1 148 ?_
                      refine tk 2 149 ?_
                      refine tk 3 150 ?_
                      refine tk 4 151 ?_
                      refine tk 5 152 ?_
                      refine tk 6 153 ?_
                      refine tk 7 154 ?_
                      refine tk 8 155 ?_
                      refine tk 9 156 ?_
                      refine tk 10 157 ?_
                      refine tk 11 158 ?_
                      refine tk 12 159 ?_
                      (refine held_call 13 (some 160) 78 _ rfl (by kernel_rfl) (by rfl) ?_ ((AtK.go q1 (hb2.drew))) ?_; rotate_left; rotate_left; (simp only [List.getElem?_toArray, List.getElem?_cons_zero, List.getElem?_cons_succ, Option.map_some]; refine congrArg some ?_; go_simp))
                      rintro e u3 ⟨rfl, hb⟩
                      have hb3 : Below wr.heap.size wr u3 := hb2.drew.trans (hb.mono hb2.drew.size)
                      have hbf : Below wa.heap.size wa u3 := hbw.trans (hb3.mono hbs)
                      clear hb q1
                      refine ⟨_, rfl, ⟨HCK.out _ hbf, HCI.out _ hbf⟩, fun hHeld => ?_⟩
                      (try simp only [Act.put, List.setIfInBounds_toArray, List.set_cons_zero, List.set_cons_succ])
                      refine tk 14 161 ?_
                      refine tk 15 162 ?_
                      refine tk 16 163 ?_
                      refine tk 17 164 ?_
                      refine tk 18 165 ?_
                      refine wpAnyH_done (by kernel_rfl) ?_ _
                      clear hHeld
                      have ho3 := Lib.hid (ownsRow_below ho.out hb3 (Nat.le_refl _))
                      obtain ⟨s0, _, _, s4⟩ := HD.out u3 hbf
                      have hbs3 := hbf.size
                      clear HCK HCI ho
                      go_upto_region 36 with (at_builtin; refine wpList_append1g (P := Tryz.prog) rfl (.tmp 166) (.tmp 172) 42 rfl wa.heap.size 3 (.int .i64 0) 1 8 Tryz.underlying42 info3 (by decide) (by decide) (.slice A3 L.length c3) L.length (ints L) rfl (ho3.out.alloc _) u3.heap.size #[.int .i64 id] 3 rfl (Bk.new _ _ _) rfl ?c1 ?c2 (by decide) ?c3 ?_)
                      case c1 => rfl
                      case c2 => omega
                      case c3 => first | omega | (simp; omega)
                      intro v5 w5 ho5 hg5
                      have hb5 : Below wa.heap.size wa w5 := (hbf.alloc hbs3 _).grown hg5 (by simp; omega) (fun j hj => (ho3.out.lt j hj).1)
                      have hsn5 : ints L ++ (#[Value.int .i64 id] : Array Value).toList = ints (L ++ [id]) := by simp [ints]
                      rw [hsn5] at ho5
                      have hll : (L ++ [id]).length = L.length + 1 := by simp
                      rw [← hll] at ho5
                      obtain ⟨A5, c5, rfl, _, _⟩ := ownsSlice ho5
                      have HO5 := Lib.hid ho5
                      obtain ⟨_, _, _, t4⟩ := HD.out w5 hb5
                      have HYY : Hid ((L ++ [id]) ++ chn d g q ry = chn d g q0 x) := by show _ = _; rw [List.append_assoc]; exact HY.out.1
                      have HYZ := Lib.hid HY.out.2
                      clear ho5 hg5 hsn5 ho3 s0 s4 HD HY
                      go_wp2
                      go_roundw
                      case rel => exact ⟨j + 1, true, L ++ [id], ry, A5, c5, by omega, rfl, rfl, rfl, by go_num, HO5, (fun h => (by cases h)), (fun _ => ⟨HYY.out, HYZ.out, HYG.out, hll⟩), hb5⟩
                      case measure => simp [intOf]; omega
                    · have hmb : (m == (q : Int)) = false := by simpa using hmq
                      have HS3 := Lib.hid (HS2.out hmq)
                      clear HYN HS2 hmq
                      refine wp_region_held_drew (S := fun V => V.cell? ⟨gd, k, none⟩ = some (.int .i64 m) ∧ V.cell? ⟨gd, i, none⟩ = some (.int .i64 ((q + 1 : Nat) : Int))) (by kernel_rfl) ?_ (fun hHeld => ?_)
                      · exact ⟨HCK.out _ hbu.drew, HCI.out _ hbu.drew⟩
                      refine tk 0 147 ?_
                      refine tk 1 148 ?_
                      refine tk 2 149 ?_
                      refine tk 3 150 ?_
                      refine tk 4 151 ?_
                      refine tk 5 152 ?_
                      refine tk 6 153 ?_
                      refine tk 7 154 ?_
                      refine tk 8 155 ?_
                      refine tk 9 156 ?_
                      refine tk 10 157 ?_
                      refine tk 11 158 ?_
                      refine tk 12 159 ?_
                      (refine held_call 13 (some 160) 78 _ rfl (by kernel_rfl) (by rfl) ?_ ((AtK.go q1 (hb2.drew))) ?_; rotate_left; rotate_left; (simp only [List.getElem?_toArray, List.getElem?_cons_zero, List.getElem?_cons_succ, Option.map_some]; refine congrArg some ?_; go_simp))
                      rintro e u3 ⟨rfl, hb⟩
                      have hb3 : Below wr.heap.size wr u3 := hb2.drew.trans (hb.mono hb2.drew.size)
                      have hbf : Below wa.heap.size wa u3 := hbw.trans (hb3.mono hbs)
                      clear hb q1
                      refine ⟨_, rfl, ⟨HCK.out _ hbf, HCI.out _ hbf⟩, fun hHeld => ?_⟩
                      (try simp only [Act.put, List.setIfInBounds_toArray, List.set_cons_zero, List.set_cons_succ])
                      refine tk 14 161 ?_
                      refine tk 15 162 ?_
                      refine tk 16 163 ?_
                      refine tk 17 164 ?_
                      refine tk 18 165 ?_
                      refine wpAnyH_done (by kernel_rfl) ?_ _
                      clear hHeld
                      have ho3 := Lib.hid (ownsRow_below ho.out hb3 (Nat.le_refl _))
                      clear HCK HCI ho HD
                      go_wp2
                      go_roundw
                      case rel => exact ⟨j + 1, false, L, z, A3, c3, by omega, rfl, rfl, rfl, by go_num, ho3, (fun _ => ⟨rfl, rfl, HS3.out⟩), (fun h => (by cases h)), hbf⟩
                      case measure => simp [intOf]; omega
                · obtain rfl : j = d.length := by omega
                  cases b
                  · exfalso
                    obtain ⟨_, _, hno⟩ := hF.out rfl
                    obtain ⟨r, hr, h5, hx, hy⟩ := HDI.out.pred hz.out
                    obtain ⟨j', hj', rfl⟩ := List.getElem_of_mem hr
                    have := hno j' hj' hj'
                    unfold chM at this
                    rw [h5, hx, hy] at this
                    simp at this
                  · obtain ⟨h1, h2, h3, h4⟩ := hT.out rfl
                    have H1 := Lib.hid h1
                    have H2 := Lib.hid h2
                    have H3 := Lib.hid h3
                    clear hF hT h1 h2 h3 HCV HLE HAE HCI HBE
                    go_wp2
                    go_roundw
                    case rel => exact ⟨q, z2, L2, A3, c3, rfl, rfl, ho, H1, H2, H3, by omega, hbw⟩
                    case measure => simp [slN]; omega
end Go.Proofs.YtkfeagokmcakgaaGreatDoor

namespace Go.Proofs.YtkfeagokmcakgaaGreatDoor
open Go.RowKit

def chL (d : List Rul) (g : ByteArray → Option Int) (x : ByteArray) : List Int := match g x with | none => [] | some n => chn d g n.toNat x
def CnE (L : List Int) (b : Bool) (w : World) (e : Ending) (w' : World) : Prop := ∃ A c, e = .returned (.tuple #[.slice A L.length c, .bool b]) ∧ Lies w' w'.heap.size A (ints L) ∧ Below w.heap.size w w'
theorem cnE_of {d : List Rul} {g : ByteArray → Option Int} {x y : ByteArray} {w w' : World} {e : Ending} (hg : IsDist d y g) (h : ChainE d x y w e w') : CnE (chL d g x) (g x).isSome w e w' := by
  obtain ⟨g2, h2, hb, hm⟩ := h
  obtain rfl := hg.unique h2
  unfold chL
  cases e1 : g x with
  | none =>
    rw [e1] at hm
    exact ⟨none, 0, hm, fun h => absurd rfl h, hb⟩
  | some n =>
    rw [e1] at hm
    obtain ⟨A, c, h3, h4⟩ := hm
    exact ⟨A, c, h3, h4, hb⟩
theorem chn_len (d : List Rul) (g : ByteArray → Option Int) : ∀ (n : Nat) (x : ByteArray), (chn d g n x).length ≤ n
  | 0, _ => Nat.le_refl _
  | n + 1, x => by
    unfold chn
    split
    · have := chn_len d g n; rename_i r _; have := this r.y; simp; omega
    · have := chn_len d g n x; omega
theorem chL_len {d : List Rul} {g : ByteArray → Option Int} {x y : ByteArray} (h : IsDist d y g) : (chL d g x).length ≤ d.length + 1 := by
  unfold chL
  cases e : g x with
  | none => simp
  | some n =>
    have h1 := dist_bound h (grps_closed d x) (grps_self d x) e
    have h2 := grps_len d x
    have h3 := chn_len d g n.toNat x
    have h4 := h.pos e
    dsimp only
    omega
set_option maxHeartbeats 1000000 in
set_option maxRecDepth 100000 in
theorem lawChains_any (l : List Rul) (A : Option Addr) (c : Nat) (known : Int) (x y : ByteArray) (w : World) (hg : Glob w) (hl : Lies w w.heap.size A (rulesC l)) (hc : l.length ≤ c ∧ c ≤ maxLen)
    (hlw : ∀ r ∈ l, (r.x.size ≤ maxLen ∧ r.y.size ≤ maxLen) ∧ (0 ≤ r.kind ∧ r.kind ≤ 255)) (hx : x.size ≤ maxLen) (hy : y.size ≤ maxLen) :
    Calls Tryz.prog 5 #[.agg #[.slice A l.length c], .int .i64 known, .string x, .string y] w (fun e w' => e = .returned (.bool true) ∧ Below w.heap.size w w') := by
  have HW : Hid (Below w.heap.size w (w.alloc (.cells #[.slice A l.length c] 25))) := (Below.refl _ _).alloc (Nat.le_refl _) _
  have HK0 : Hid (Bk (w.alloc (.cells #[.slice A l.length c] 25)) w.heap.size 25 #[.slice A l.length c]) := Bk.new _ _ _
  have HL : Hid (∀ V, Below (w.alloc (.cells #[.slice A l.length c] 25)).heap.size (w.alloc (.cells #[.slice A l.length c] 25)) V → Lies V V.heap.size A (rulesC l)) := fun V hV => lies_on hl (HW.out.trans (hV.mono HW.out.size))
  have HR : Hid (∀ V, Below (w.alloc (.cells #[.slice A l.length c] 25)).heap.size (w.alloc (.cells #[.slice A l.length c] 25)) V → Calls Tryz.prog 17 #[] V (fun e w' => e = .returned (.bool true) ∧ Below V.heap.size V w')) := fun V hV => ruled_any V (hg.step (HW.out.trans (hV.mono HW.out.size)))
  go_enter Tryz.func5, Tryz.ntmps5
  go_upto_region 1 with fail
  have hBW0 : Below (w.alloc (.cells #[.slice A l.length c] 25)).heap.size (w.alloc (.cells #[.slice A l.length c] 25)) (w.alloc (.cells #[.slice A l.length c] 25)) := Below.refl _ _
  have HY : Hid (∀ V, Below (w.alloc (.cells #[.slice A l.length c] 25)).heap.size (w.alloc (.cells #[.slice A l.length c] 25)) V → V.cell? ⟨w.heap.size, 0, none⟩ = some (.slice A l.length c)) := fun V hV => (HK0.out.below hV HK0.out.lt).cell 0 rfl
  clear hg hl HK0
  generalize (w.alloc (.cells #[.slice A l.length c] 25)) = W0 at *
  have y0 := HY.out W0 hBW0
  generalize hb0 : w.heap.size = b0 at *
  have HSM : Hid (∀ V, Below W0.heap.size W0 V → Calls Tryz.prog 22 #[.agg #[.slice A l.length c]] V (ShEnd (smallB l) V)) := fun V hV => small_any l A c V (HL.out V hV) (fun r hr => (hlw r hr).1) (Nat.le_trans hc.1 hc.2)
  have HEND : Hid (∀ V, Below W0.heap.size W0 V → Below w.heap.size w V) := fun V hV => by subst hb0; exact HW.out.trans (hV.mono (by have := HW.out.size; omega))
  have hz2 : (x.size : Int) ≤ 9223372036854775807 := by unfold maxLen at hx; omega
  have hz3 : (y.size : Int) ≤ 9223372036854775807 := by unfold maxLen at hy; omega
  clear hb0 hx hy
  cases hsm : smallB l
  · rw [hsm] at HSM
    clear HL hsm
    go_wp2_with (first | (go_at_call 22; refine (HSM.out _ (by assumption)).mono ?_; rintro e w1 ⟨rfl, hb⟩; have hBw1 : Below W0.heap.size W0 w1 := Below.trans (by assumption) (hb.mono (Below.size (by assumption))); have yw1 := HY.out w1 hBw1; clear hb) | (go_at_call 17; refine (HR.out _ (by assumption)).mono ?_; rintro e z ⟨rfl, hb⟩; have hBz : Below W0.heap.size W0 z := Below.trans (by assumption) (hb.mono (Below.size (by assumption))); clear hb))
    go_ret
    exact ⟨rfl, HEND.out _ hBz⟩
  rw [hsm] at HSM
  have hO := small_ok hsm (fun r hr => (hlw r hr).2)
  clear hsm hlw
  by_cases hxs : x.size ≤ 60
  case neg =>
    have h152 : (60 : Int) < (x.size : Int) := by omega
    clear HL
    go_wp2_with (first | (go_at_call 22; refine (HSM.out _ (by assumption)).mono ?_; rintro e w1 ⟨rfl, hb⟩; have hBw1 : Below W0.heap.size W0 w1 := Below.trans (by assumption) (hb.mono (Below.size (by assumption))); have yw1 := HY.out w1 hBw1; clear hb) | (go_at_call 17; refine (HR.out _ (by assumption)).mono ?_; rintro e z ⟨rfl, hb⟩; have hBz : Below W0.heap.size W0 z := Below.trans (by assumption) (hb.mono (Below.size (by assumption))); clear hb))
    go_ret
    exact ⟨rfl, HEND.out _ hBz⟩
  have h152 : ¬ (60 : Int) < (x.size : Int) := by omega
  by_cases hys : y.size ≤ 60
  case neg =>
    have h153 : (60 : Int) < (y.size : Int) := by omega
    clear HL
    go_wp2_with (first | (go_at_call 22; refine (HSM.out _ (by assumption)).mono ?_; rintro e w1 ⟨rfl, hb⟩; have hBw1 : Below W0.heap.size W0 w1 := Below.trans (by assumption) (hb.mono (Below.size (by assumption))); have yw1 := HY.out w1 hBw1; clear hb) | (go_at_call 17; refine (HR.out _ (by assumption)).mono ?_; rintro e z ⟨rfl, hb⟩; have hBz : Below W0.heap.size W0 z := Below.trans (by assumption) (hb.mono (Below.size (by assumption))); clear hb))
    go_ret
    exact ⟨rfl, HEND.out _ hBz⟩
  have h153 : ¬ (60 : Int) < (y.size : Int) := by omega
  obtain ⟨g, hgd⟩ := dist_ex (cntL l known) y
  have hcl : (cntL l known).length ≤ 1000 := Nat.le_trans (cnt_len l known) (by have := hO.2; omega)
  have hLl : (chL (cntL l known) g x).length ≤ 1000000 := by have := chL_len (x := x) hgd; omega
  have HC1 : Hid (∀ V, Below W0.heap.size W0 V → Calls Tryz.prog 27 #[.agg #[.slice A l.length c], .int .i64 known, .string x, .string y] V (CnE (chL (cntL l known) g x) (g x).isSome V)) := fun V hV => (chain_any l A c known x y V (HL.out V hV) hO.1 (by have := hO.2; omega) (by omega) (by omega)).mono fun e w' h => cnE_of hgd h
  have HC2 : Hid (∀ V, Below W0.heap.size W0 V → Calls Tryz.prog 28 #[.agg #[.slice A l.length c], .int .i64 known, .string x, .string y] V (CnE (chL (cntL l known) g x) (g x).isSome V)) := fun V hV => (rchain_any l A c known x y V (HL.out V hV) hO.1 (by have := hO.2; omega)).mono fun e w' h => cnE_of hgd h
  have HB1 : Hid (∀ V, Below W0.heap.size W0 V → Calls Tryz.prog 29 #[.agg #[.slice A l.length c], .int .i64 known, .string x, .string y] V (BarE (barL (cntL l known) 3 x y true) V)) := fun V hV => mayBeside_any l A c known x y V (HL.out V hV) hO.1 (by have := hO.2; omega) (by omega) (by omega)
  have HB2 : Hid (∀ V, Below W0.heap.size W0 V → Calls Tryz.prog 30 #[.agg #[.slice A l.length c], .int .i64 known, .string x, .string y] V (BarE (barL (cntL l known) 3 x y true) V)) := fun V hV => rmayBeside_any l A c known x y V (HL.out V hV) hO.1 (by have := hO.2; omega)
  have HO1 : Hid (∀ V, Below W0.heap.size W0 V → Calls Tryz.prog 31 #[.agg #[.slice A l.length c], .int .i64 known, .string x, .string y] V (BarE (barL (cntL l known) 4 x y false) V)) := fun V hV => mayOver_any l A c known x y V (HL.out V hV) hO.1 (by have := hO.2; omega) (by omega) (by omega)
  have HO2 : Hid (∀ V, Below W0.heap.size W0 V → Calls Tryz.prog 32 #[.agg #[.slice A l.length c], .int .i64 known, .string x, .string y] V (BarE (barL (cntL l known) 4 x y false) V)) := fun V hV => rmayOver_any l A c known x y V (HL.out V hV) hO.1 (by have := hO.2; omega)
  have HQQ : Hid (∀ (F : List Int) (a b : Option Addr) (p q : Nat) (V : World), Lies V V.heap.size a (ints F) → Lies V V.heap.size b (ints F) → F.length ≤ 1000000 → Calls Tryz.prog 33 #[.slice a F.length p, .slice b F.length q] V (ShEnd true V)) := fun F a b p q V h1 h2 h3 => by
    have h := sameInts_any F F a b p q V h1 h2 h3 h3
    unfold sameB at h; rw [decide_eq_true rfl] at h; exact h
  clear hO HL hgd hcl
  unfold CnE at HC1 HC2
  unfold BarE at HB1 HB2 HO1 HO2
  generalize chL (cntL l known) g x = F at *
  generalize (g x).isSome = b at *
  generalize barL (cntL l known) 3 x y true = P at *
  generalize barL (cntL l known) 4 x y false = O at *
  obtain ⟨p1, p2⟩ := P
  obtain ⟨o1, o2⟩ := O
  dsimp only at *
  have e1 : (b == b) = true := by simp
  have e2 : (p1 == p1) = true := by simp
  have e3 : (p2 == p2) = true := by simp
  have e4 : (o1 == o1) = true := by simp
  have e5 : (o2 == o2) = true := by simp
  go_upto_region 4 with (first | (go_at_call 22; refine (HSM.out _ (by assumption)).mono ?_; rintro e w1 ⟨rfl, hb⟩; have hBw1 : Below W0.heap.size W0 w1 := Below.trans (by assumption) (hb.mono (Below.size (by assumption))); have yw1 := HY.out w1 hBw1; clear hb) | (go_at_call 27; refine (HC1.out _ (by assumption)).mono ?_; rintro e w3 ⟨A1, c1, rfl, l1, hb⟩; have hBw3 : Below W0.heap.size W0 w3 := Below.trans (by assumption) (hb.mono (Below.size (by assumption))); have yw3 := HY.out w3 hBw3; clear hb))
  have HX1 := Lib.hid l1
  clear l1 HSM HC1 y0
  have HY := Lib.hid (fun V (hV : Below w3.heap.size w3 V) => HY.out V (hBw3.trans (hV.mono hBw3.size)))
  have HC2 := Lib.hid (fun V (hV : Below w3.heap.size w3 V) => HC2.out V (hBw3.trans (hV.mono hBw3.size)))
  have HB1 := Lib.hid (fun V (hV : Below w3.heap.size w3 V) => HB1.out V (hBw3.trans (hV.mono hBw3.size)))
  have HB2 := Lib.hid (fun V (hV : Below w3.heap.size w3 V) => HB2.out V (hBw3.trans (hV.mono hBw3.size)))
  have HO1 := Lib.hid (fun V (hV : Below w3.heap.size w3 V) => HO1.out V (hBw3.trans (hV.mono hBw3.size)))
  have HO2 := Lib.hid (fun V (hV : Below w3.heap.size w3 V) => HO2.out V (hBw3.trans (hV.mono hBw3.size)))
  have HR := Lib.hid (fun V (hV : Below w3.heap.size w3 V) => HR.out V (hBw3.trans (hV.mono hBw3.size)))
  have HEND := Lib.hid (fun V (hV : Below w3.heap.size w3 V) => HEND.out V (hBw3.trans (hV.mono hBw3.size)))
  have hBw4 : Below w3.heap.size w3 w3 := Below.refl _ _
  clear hBw3
  go_upto_region 5 with (go_at_call 28; refine (HC2.out _ (by assumption)).mono ?_; rintro e w4 ⟨B1, d1, rfl, l1, hb⟩; have hBw5 : Below w3.heap.size w3 w4 := Below.trans (by assumption) (hb.mono (Below.size (by assumption))); have yw4 := HY.out w4 hBw5; clear hb)
  have HQ1 : Hid (∀ V, Below w4.heap.size w4 V → Calls Tryz.prog 33 #[.slice A1 F.length c1, .slice B1 F.length d1] V (ShEnd true V)) := fun V hV => HQQ.out F A1 B1 c1 d1 V (lies_on (lies_on HX1.out hBw5) hV) (lies_on l1 hV) hLl
  clear l1 HQQ HX1 HC2 hLl
  have HY := Lib.hid (fun V (hV : Below w4.heap.size w4 V) => HY.out V (hBw5.trans (hV.mono hBw5.size)))
  have HB1 := Lib.hid (fun V (hV : Below w4.heap.size w4 V) => HB1.out V (hBw5.trans (hV.mono hBw5.size)))
  have HB2 := Lib.hid (fun V (hV : Below w4.heap.size w4 V) => HB2.out V (hBw5.trans (hV.mono hBw5.size)))
  have HO1 := Lib.hid (fun V (hV : Below w4.heap.size w4 V) => HO1.out V (hBw5.trans (hV.mono hBw5.size)))
  have HO2 := Lib.hid (fun V (hV : Below w4.heap.size w4 V) => HO2.out V (hBw5.trans (hV.mono hBw5.size)))
  have HR := Lib.hid (fun V (hV : Below w4.heap.size w4 V) => HR.out V (hBw5.trans (hV.mono hBw5.size)))
  have HEND := Lib.hid (fun V (hV : Below w4.heap.size w4 V) => HEND.out V (hBw5.trans (hV.mono hBw5.size)))
  have hBw6 : Below w4.heap.size w4 w4 := Below.refl _ _
  clear hBw5 hBw4
  generalize F.length = f1 at *
  go_upto_region 6 with (go_at_call 29; refine (HB1.out _ (by assumption)).mono ?_; rintro e w5 ⟨rfl, hb⟩; have hBw7 : Below w4.heap.size w4 w5 := Below.trans (by assumption) (hb.mono (Below.size (by assumption))); have yw5 := HY.out w5 hBw7; clear hb)
  go_upto_region 7 with (go_at_call 30; refine (HB2.out _ (by assumption)).mono ?_; rintro e w6 ⟨rfl, hb⟩; have hBw8 : Below w4.heap.size w4 w6 := hBw7.trans (hb.mono hBw7.size); have yw6 := HY.out w6 hBw8; clear hb hBw7 hBw6 yw4 yw5)
  go_upto_region 8 with (go_at_call 31; refine (HO1.out _ (by assumption)).mono ?_; rintro e w7 ⟨rfl, hb⟩; have hBw9 : Below w4.heap.size w4 w7 := hBw8.trans (hb.mono hBw8.size); have yw7 := HY.out w7 hBw9; clear hb hBw8 yw6)
  go_upto_region 9 with (go_at_call 32; refine (HO2.out _ (by assumption)).mono ?_; rintro e w8 ⟨rfl, hb⟩; have hBw10 : Below w4.heap.size w4 w8 := hBw9.trans (hb.mono hBw9.size); clear hb hBw9 yw7)
  clear HB1 HB2 HO1 HO2 HY
  go_wp2_with (first | (go_at_call 17; refine (HR.out _ (by assumption)).mono ?_; rintro e w11 ⟨rfl, hb⟩; have hBw11 : Below w4.heap.size w4 w11 := hBw10.trans (hb.mono hBw10.size); clear hb hBw10 HR) | (go_at_call 33; refine (HQ1.out _ (by assumption)).mono ?_; rintro e w12 ⟨rfl, hb⟩; have hBw12 : Below w4.heap.size w4 w12 := hBw11.trans (hb.mono hBw11.size); clear hb hBw11 HQ1))
  go_ret
  exact ⟨rfl, HEND.out _ hBw12⟩
end Go.Proofs.YtkfeagokmcakgaaGreatDoor

namespace Go.Proofs.YtkfeagokmcakgaaGreatDoor
open Go.ChangeShapes Go.WideShapes Go.ChangeAt Go.RowKit Go.Deep

set_option maxHeartbeats 20000000 in
set_option maxRecDepth 100000 in
theorem chains_facts : joinedFacts Tryz.prog 5 Tryz.f5 Rows.pigmentChainsSpec Rows.pigmentChainsRow = true := by
  unfold joinedFacts
  simp only [Bool.and_eq_true]
  repeat' (refine And.intro ?_ ?_)
  all_goals (as_aux_lemma => kernel_rfl)
end Go.Proofs.YtkfeagokmcakgaaGreatDoor
