/- The reference's Parse (fn 19). Printed by gen_y24.py. -/
import Derived.Test.YtkfeagokmcakgaaGreatDoorG07
import Derived.Test.YtkfeagokmcakgaaGreatDoorG50
import Derived.Test.YtkfeagokmcakgaaGreatDoorG52
import Derived.Test.YtkfeagokmcakgaaGreatDoorG53
import Derived.Test.YtkfeagokmcakgaaGreatDoorG55
import Derived.Test.YtkfeagokmcakgaaGreatDoorG58

set_option linter.unusedVariables false
set_option linter.unusedSimpArgs false

namespace Go.Proofs.YtkfeagokmcakgaaGreatDoor
open Go.RowKit

theorem wp_call_int {o : Oper} {a : Act} {w : World} {f : Nat} {v : Int} {args : Array Value} {K : Act → World → Prop} {Q : Exit → Act → World → Prop} (he : (execOp a.eval o).run Tryz.prog w = .ok (.enter f args) w) (hc : Calls Tryz.prog f args w (IntEnd v w))
    (hK : ∀ w', Below w.heap.size w w' → K (a.put o.dst (.int .i64 v)) w') : o.wp Tryz.prog a w K Q := by
  unfold Oper.wp
  rw [he]
  refine hc.mono ?_
  rintro e w' ⟨rfl, hb⟩
  exact hK w' hb
/-- the state of the loop ahead of line k -/
structure RS (T : Int × Int × List Rul) (L : List ByteArray) (w1 : World) (k : Nat) (l : List Rul) (A : Option Addr) (c : Nat) (wr : World) : Prop where
  run : ∃ at_, prsG (L.drop k) k l at_ = T
  ok : RulOK l ∧ l.length ≤ 200
  fine : Fine l
  book : Bk wr w1.heap.size 25 #[.slice A l.length c]
  own : wr.ownsRow (w1.heap.size + 1) 50 6 (.slice A l.length c) l.length (rulesC l)
  bel : Below w1.heap.size w1 wr
theorem RS.step {T : Int × Int × List Rul} {L : List ByteArray} {w1 V V' : World} {k : Nat} {l : List Rul} {A : Option Addr} {c : Nat} (h : RS T L w1 k l A c V) (hb : Below V.heap.size V V') : RS T L w1 k l A c V' :=
  ⟨h.run, h.ok, h.fine, h.book.below hb h.book.lt, ownsRow_below h.own hb (Nat.le_refl _), h.bel.trans (hb.mono h.bel.size)⟩
theorem RS.skip {T : Int × Int × List Rul} {L : List ByteArray} {w1 wr : World} {k : Nat} {l : List Rul} {A : Option Addr} {c : Nat} (h : RS T L w1 k l A c wr) (hk : k < L.length) (hs : skipL L[k] = true) : RS T L w1 (k + 1) l A c wr := by
  obtain ⟨at_, h1⟩ := h.run
  refine ⟨⟨at_, ?_⟩, h.ok, h.fine, h.book, h.own, h.bel⟩
  rw [prs_at hk, if_pos hs] at h1; exact h1
theorem RS.bad {T : Int × Int × List Rul} {L : List ByteArray} {w1 wr : World} {k : Nat} {l : List Rul} {A : Option Addr} {c : Nat} (h : RS T L w1 k l A c wr) (hk : k < L.length) (hs : skipL L[k] = false) (e : rdR L[k] = none) : T = (4, (k : Int) + 1, l) := by
  obtain ⟨at_, h1⟩ := h.run
  rw [prs_at hk, if_neg (by rw [hs]; decide), e] at h1; exact h1.symm
theorem RS.ref {T : Int × Int × List Rul} {L : List ByteArray} {w1 wr : World} {k : Nat} {l : List Rul} {A : Option Addr} {c : Nat} {x : Rul} (h : RS T L w1 k l A c wr) (hk : k < L.length) (hs : skipL L[k] = false) (e : rdR L[k] = some x) (hz : ¬ refE l x = 0) : T = (refE l x, (k : Int) + 1, l) := by
  obtain ⟨at_, h1⟩ := h.run
  rw [prs_at hk, if_neg (by rw [hs]; decide), e] at h1
  dsimp only at h1
  rw [if_neg hz] at h1; exact h1.symm
theorem RS.more {T : Int × Int × List Rul} {L : List ByteArray} {w1 wr : World} {k : Nat} {l : List Rul} {A : Option Addr} {c : Nat} {x : Rul} (h : RS T L w1 k l A c wr) (hk : k < L.length) (hs : skipL L[k] = false) (e : rdR L[k] = some x) (hz : refE l x = 0) : ∃ at_, prsG (L.drop (k + 1)) (k + 1) (l ++ [x]) at_ = T := by
  obtain ⟨at_, h1⟩ := h.run
  rw [prs_at hk, if_neg (by rw [hs]; decide), e] at h1
  dsimp only at h1
  rw [if_pos hz] at h1; exact ⟨_, h1⟩
theorem prsR_bad {src : ByteArray} {k at_ : Int} {l : List Rul} (hs : ¬ 20000 < src.size) (h : prsL src = (k, at_, l)) (hk : ¬ k = 0) : prsR src = (k, at_, []) := by
  unfold prsR; rw [if_neg hs, h]; exact if_neg hk
theorem prsR_good {src : ByteArray} {at_ : Int} {l : List Rul} (hs : ¬ 20000 < src.size) (h : prsL src = (0, at_, l)) : prsR src = (0, 0, l) := by
  unfold prsR; rw [if_neg hs, h]; exact if_pos rfl
set_option maxHeartbeats 1000000 in
set_option maxRecDepth 100000 in
theorem rparse_any (src : ByteArray) (w : World) (hs : src.size ≤ 1000 ∨ 20000 < src.size) (hs2 : src.size ≤ 1000000) : Calls Tryz.prog 19 #[.string src] w (ParseE src w) := by
  have HK0 : Hid (Bk ((w.alloc (.cells #[.slice none 0 0] 25)).alloc (.cells #[.int .i64 0, .int .i64 0, .int .i64 0] 28)) w.heap.size 25 #[.slice none 0 0]) := (Bk.new w 25 #[.slice none 0 0]).alloc _
  have HK1 : Hid (Bk ((w.alloc (.cells #[.slice none 0 0] 25)).alloc (.cells #[.int .i64 0, .int .i64 0, .int .i64 0] 28)) (w.heap.size + 1) 28 #[.int .i64 0, .int .i64 0, .int .i64 0]) := Lib.hid (by
    have h := Bk.new (w.alloc (.cells #[.slice none 0 0] 25)) 28 #[.int .i64 0, .int .i64 0, .int .i64 0]; simpa using h)
  have HB0 : Hid (Below w.heap.size w ((w.alloc (.cells #[.slice none 0 0] 25)).alloc (.cells #[.int .i64 0, .int .i64 0, .int .i64 0] 28))) := ((Below.refl _ _).alloc (Nat.le_refl _) _).alloc (by simp) _
  have hx0 : ((w.alloc (.cells #[.slice none 0 0] 25)).alloc (.cells #[.int .i64 0, .int .i64 0, .int .i64 0] 28)).heap.size = w.heap.size + 2 := by simp
  have hszI : (src.size : Int) ≤ 1000000 := by omega
  go_enter Tryz.func19, Tryz.ntmps19
  go_upto_region 1 with fail
  generalize ((w.alloc (.cells #[.slice none 0 0] 25)).alloc (.cells #[.int .i64 0, .int .i64 0, .int .i64 0] 28)) = X at *
  by_cases hbig : 20000 < src.size
  · have hb : (20000 : Int) < src.size := by omega
    have HR : Hid (prsR src = (2, 0, [])) := if_pos hbig
    clear hs hs2 hbig
    go_wp2_with (first | (refine wpList_store_blk (P := Tryz.prog) rfl 25 (.tmp 2) (.tmp 12) rfl w.heap.size #[.slice none 0 0] #[.slice none 0 0] rfl rfl HK0.out rfl info25 (by intro v hv; simp at hv; subst hv; rfl) ?_; intro W8 k8 f8) | (refine wpList_store_blk (P := Tryz.prog) rfl 28 (.tmp 3) (.tmp 13) rfl (w.heap.size + 1) #[.int .i64 0, .int .i64 0, .int .i64 0] #[.int .i64 2, .int .i64 0, .int .i64 0] rfl rfl (f8.bk (by omega) HK1.out) rfl info28 (by intro v hv; simp at hv; rcases hv with rfl | rfl <;> rfl) ?_; intro W9 k9 f9))
    have k89 := f9.bk (by omega) k8
    refine bodyPost_ret (results_two rfl _ _ w.heap.size (w.heap.size + 1) [.slice none 0 0] [.int .i64 2, .int .i64 0, .int .i64 0] _ _ rfl rfl k89.range Tryz.underlying25 rfl info25 k9.range Tryz.underlying28 rfl info28) rfl ?_
    exact parse_bad HR.out (f9.bel _ _ (by omega) (f8.bel _ _ (Nat.le_refl _) HB0.out))
  have hs1 : src.size ≤ 1000 := by omega
  have hb : ¬ (20000 : Int) < src.size := by omega
  have HBG := Lib.hid hbig
  have HSP0 : Hid (Calls Tryz.prog 67 #[.string src, .int .u8 10] X (SplE src 10 X)) := split_any src 10 _ (by omega)
  have HSM : Hid (∀ u ∈ linesB src, u.size ≤ 1000) := fun u hu => Nat.le_trans (lines_small hu) hs1
  have HLD := Lib.hid (lines_data src)
  have HLE := lines_le src
  have HT : Hid (prsL src = prsG (linesB src) 0 [] 0) := rfl
  clear hs hs2 hbig
  go_upto_region 4 with (go_at_call 67; refine HSP0.out.mono ?_; rintro e w1 ⟨L, A1, c1, hmap, rfl, hlies, hcap, hlen, hbw⟩)
  obtain rfl : L = linesB src := map_data_inj (hmap.trans HLD.out.symm)
  have HL1 : Hid (∀ V, Below w1.heap.size w1 V → Lies V V.heap.size A1 (strsC (linesB src))) := fun V hV => (hlies.below hV (Nat.le_refl _)).more hV.size
  have HB1 : Hid (∀ V, Below w1.heap.size w1 V → Below w.heap.size w V) := fun V hV => HB0.out.trans ((hbw.mono (by omega)).trans (hV.mono (Nat.le_trans HB0.out.size hbw.size)))
  have HKR : Hid (∀ V, Below w1.heap.size w1 V → Bk V w.heap.size 25 #[.slice none 0 0] ∧ Bk V (w.heap.size + 1) 28 #[.int .i64 0, .int .i64 0, .int .i64 0]) := fun V hV => ⟨(HK0.out.below hbw HK0.out.lt).below hV (by have := hbw.size; omega), (HK1.out.below hbw HK1.out.lt).below hV (by have := hbw.size; omega)⟩
  have hwz : w.heap.size + 2 ≤ w1.heap.size := by have := hbw.size; omega
  clear hmap hlies hcap hlen hbw HLD HSP0 HK0 HK1 HB0
  generalize linesB src = L at *
  have hN2 : L.length ≤ 1002 := by omega
  have HP0 : Hid (RS (prsL src) L w1 0 [] none 0 (w1.alloc (.cells #[.slice none 0 0] 25))) := ⟨⟨0, HT.out.symm⟩, ⟨fun r hr => absurd hr (by simp), by simp⟩, fine_nil, Bk.new _ _ _, World.ownsRow_nil _ _ _ _, (Below.refl _ _).alloc (Nat.le_refl _) _⟩
  clear HT HLE
  go_wp2
  generalize w1.alloc (.cells #[.slice none 0 0] 25) = W2 at *
  go_loopw [6] (fun y wr => ∃ (k : Nat) (l : List Rul) (A : Option Addr) (c : Nat), k ≤ L.length ∧ y = .int .i64 k ∧ Hid (RS (prsL src) L w1 k l A c wr)) (fun y _ => L.length - (intOf y).toNat)
  case atStart => exact ⟨0, [], none, 0, by omega, rfl, HP0⟩
  case round =>
    clear HP0
    obtain ⟨k, l, A, c, hk, rfl, hP⟩ := hrel
    by_cases hkL : k < L.length
    · obtain ⟨ad, e, _, xk⟩ := str_at (HL1.out wr hP.out.bel) hkL
      subst e
      have HSK := Lib.hid (fun h => hP.out.skip hkL h)
      have HBD := Lib.hid (fun h1 h2 => hP.out.bad hkL h1 h2)
      have HRJ := Lib.hid (fun x h1 h2 h3 => hP.out.ref (x := x) hkL h1 h2 h3)
      have HMO := Lib.hid (fun x h1 h2 h3 => hP.out.more (x := x) hkL h1 h2 h3)
      have HS1 := Lib.hid (HSM.out L[k] (List.getElem_mem hkL))
      have hkI : (k : Int) < (L.length : Int) := by omega
      generalize hs : L[k] = s at *
      by_cases h0 : s.size = 0
      · have E1 := size_nil s h0
        have HP1 := Lib.hid (HSK.out (skip_nil h0))
        clear h0 hs HSK HBD HRJ HMO
        go_wp2_with fail
        go_roundw
        case rel => exact ⟨k + 1, l, A, c, by omega, by go_num, HP1⟩
        case measure => simp [intOf]; omega
      · have hp' : 0 < s.size := by omega
        have E1 := size_cons s h0
        by_cases hq : (s[0].toNat : Int) = 35
        · have HP1 := Lib.hid (HSK.out (by rw [skip_hash hp']; exact decide_eq_true hq))
          have hq2 : ((s[0].toNat : Int) == 35) = true := by rw [hq]; rfl
          clear hs HSK HBD HRJ HMO
          go_wp2_with fail
          go_roundw
          case rel => exact ⟨k + 1, l, A, c, by omega, by go_num, HP1⟩
          case measure => simp [intOf]; omega
        · have hns : skipL s = false := by rw [skip_hash hp']; exact decide_eq_false hq
          have hq2 : ((s[0].toNat : Int) == 35) = false := by simpa using hq
          have HRR := Lib.hid (rread_any s wr HS1.out)
          have HVK : Hid ((rdR s = none ∧ rdV s = rul0 ∧ rdK s = 4) ∨ ∃ x, rdR s = some x ∧ rdV s = x ∧ rdK s = 0) := by
            show _ ∨ _
            unfold rdV rdK
            cases e : rdR s with
            | none => exact .inl ⟨rfl, rfl, rfl⟩
            | some x => exact .inr ⟨x, rfl, rfl, rfl⟩
          unfold ReadE at HRR
          rcases HVK.out with ⟨e, hv, hk4⟩ | ⟨x, e, hv, hk0⟩
          · rw [hv, hk4] at HRR
            have HTT := Lib.hid (HBD.out hns e)
            clear hs HSK HBD HRJ HMO e hv hk4 HVK hns
            unfold rul0 at HRR
            go_upto_region 10 with (go_at_call 37; refine HRR.out.mono ?_; rintro e w3 ⟨rfl, hb⟩)
            have HP3 := Lib.hid ((hP.out.step hb).step ((Below.refl _ _).alloc (Nat.le_refl _) (.cells #[.int .i64 0, .int .i64 0, .int .u8 0, .string ⟨#[]⟩, .string ⟨#[]⟩, .int .i64 0] 50)))
            clear hb hP
            generalize w3.alloc (.cells #[.int .i64 0, .int .i64 0, .int .u8 0, .string ⟨#[]⟩, .string ⟨#[]⟩, .int .i64 0] 50) = w4 at *
            have HKK := Lib.hid (HKR.out _ HP3.out.bel)
            have HR2 := Lib.hid (prsR_bad HBG.out HTT.out (by decide))
            have HBE := Lib.hid (HB1.out _ HP3.out.bel)
            go_wp2_with (first | (refine wpList_store_blk (P := Tryz.prog) rfl 25 (.tmp 2) (.tmp 55) rfl w.heap.size #[.slice none 0 0] #[.slice none 0 0] rfl rfl HKK.out.1 rfl info25 (by intro v hv; simp at hv; subst hv; rfl) ?_; intro W8 k8 f8) | (refine wpList_store_blk (P := Tryz.prog) rfl 28 (.tmp 3) (.tmp 59) rfl (w.heap.size + 1) #[.int .i64 0, .int .i64 0, .int .i64 0] #[.int .i64 4, .int .i64 ((k : Int) + 1), .int .i64 0] rfl rfl (f8.bk (by omega) HKK.out.2) rfl info28 (by intro v hv; simp at hv; rcases hv with rfl | rfl | rfl <;> rfl) ?_; intro W9 k9 f9))
            have k89 := f9.bk (by omega) k8
            refine bodyPost_ret (results_two rfl _ _ w.heap.size (w.heap.size + 1) [.slice none 0 0] [.int .i64 4, .int .i64 ((k : Int) + 1), .int .i64 0] _ _ rfl rfl k89.range Tryz.underlying25 rfl info25 k9.range Tryz.underlying28 rfl info28) rfl ?_
            exact parse_bad HR2.out (f9.bel _ _ (by omega) (f8.bel _ _ (Nat.le_refl _) HBE.out))
          · rw [hv, hk0] at HRR
            have hfr := (rdR_line e).1
            have hok := frm_ok hfr
            have HROK := Lib.hid (hP.out.ok.1.snoc hfr)
            have HRF : Hid (∀ (W : World) A' c', Lies W W.heap.size A' (rulesC (l ++ [x])) → l.length + 1 ≤ c' → c' ≤ maxLen → Calls Tryz.prog 68 #[.slice A' (l.length + 1 : Nat) c'] W (IntEnd (refE l x) W)) := fun W A' c' h1 h2 h3 => by
              have h4 := rrefused_any l x A' c' W h1 hok.1 hok.2.1 (by have := hP.out.ok.2; omega) h2 h3
              rwa [← refE_eq l x hP.out.fine.nocirc] at h4
            have HJ := Lib.hid (HRJ.out x hns e)
            have HO1 := Lib.hid (HMO.out x hns e)
            have HFS := Lib.hid (fun h => hP.out.fine.snoc (r := x) h)
            have HLT := Lib.hid (fun h => refE_len (l := l) (r := x) h)
            have HSN : Hid (rulesC l ++ [.int .i64 x.id, .int .i64 x.known, .int .u8 x.kind, .string x.x, .string x.y, .int .i64 x.of] = rulesC (l ++ [x])) := rulesC_snoc l x
            clear hs HSK HBD HRJ HMO e hv hk0 HVK hns hfr hok
            generalize refE l x = er at *
            obtain ⟨rr, hrr⟩ : ∃ rr, rr = x := ⟨_, rfl⟩
            rw [show l ++ [x] = l ++ [rr] from by rw [hrr]] at HROK HRF HO1 HFS HSN
            obtain ⟨id, kn, kd, x, y, of⟩ := x
            dsimp only at HSN
            clear hrr
            go_upto_region 11 with (go_at_call 37; refine HRR.out.mono ?_; rintro e w3 ⟨rfl, hb⟩)
            have HP3 := Lib.hid ((hP.out.step hb).step ((Below.refl _ _).alloc (Nat.le_refl _) (.cells #[.int .i64 id, .int .i64 kn, .int .u8 kd, .string x, .string y, .int .i64 of] 50)))
            have HX : Hid (Bk (w3.alloc (.cells #[.int .i64 id, .int .i64 kn, .int .u8 kd, .string x, .string y, .int .i64 of] 50)) w3.heap.size 50 #[.int .i64 id, .int .i64 kn, .int .u8 kd, .string x, .string y, .int .i64 of]) := Bk.new _ _ _
            clear hb hP HRR
            generalize w3.alloc (.cells #[.int .i64 id, .int .i64 kn, .int .u8 kd, .string x, .string y, .int .i64 of] 50) = wq at *
            have HS : Hid (∀ V, Below wq.heap.size wq V → V.cell? ⟨w1.heap.size, 0, none⟩ = some (.slice A l.length c) ∧ V.cell? ⟨w3.heap.size, 0, none⟩ = some (.int .i64 id) ∧ V.cell? ⟨w3.heap.size, 1, none⟩ = some (.int .i64 kn) ∧ V.cell? ⟨w3.heap.size, 2, none⟩ = some (.int .u8 kd) ∧ V.cell? ⟨w3.heap.size, 3, none⟩ = some (.string x) ∧ V.cell? ⟨w3.heap.size, 4, none⟩ = some (.string y) ∧ V.cell? ⟨w3.heap.size, 5, none⟩ = some (.int .i64 of)) := fun V hV => by
              have k := HX.out.below hV HX.out.lt
              exact ⟨(HP3.out.step hV).book.cell 0 rfl, k.cell 0 rfl, k.cell 1 rfl, k.cell 2 rfl, k.cell 3 rfl, k.cell 4 rfl, k.cell 5 rfl⟩
            have HL : Hid (∀ V, Below wq.heap.size wq V → Lies V V.heap.size A (rulesC l)) := fun V hV => ownsRow_lies (HP3.out.step hV).own
            have HM : Hid (l.length ≤ 200) := HP3.out.ok.2
            have HO : Hid (∀ u ∈ (#[.int .i64 id, .int .i64 kn, .int .u8 kd, .string x, .string y, .int .i64 of] : Array Value).toList, u.oneCell' = true) := fun v hv => by simp at hv; rcases hv with rfl | rfl | rfl | rfl | rfl | rfl <;> rfl
            go_cut [8] (fun s8 wx => s8 = .int .i64 er ∧ Hid (Below wq.heap.size wq wx))
            case first =>
              refine wp_region_held_drew (S := fun V => V.cell? ⟨w1.heap.size, 0, none⟩ = some (.slice A l.length c) ∧ V.cell? ⟨w3.heap.size, 0, none⟩ = some (.int .i64 id) ∧ V.cell? ⟨w3.heap.size, 1, none⟩ = some (.int .i64 kn) ∧ V.cell? ⟨w3.heap.size, 2, none⟩ = some (.int .u8 kd) ∧ V.cell? ⟨w3.heap.size, 3, none⟩ = some (.string x) ∧ V.cell? ⟨w3.heap.size, 4, none⟩ = some (.string y) ∧ V.cell? ⟨w3.heap.size, 5, none⟩ = some (.int .i64 of)) (by kernel_rfl) ?_ (fun hHeld => ?_)
              · exact HS.out _ (Below.refl _ _).drew
              (refine held_take 1 (some 46) ?_ rfl (by kernel_rfl) (by kernel_rfl) (by kernel_rfl) (by rfl) (fun _ _ _ h => h) (by assumption) (fun w hSw => ?_) ?_; rotate_left; ((try dsimp only at hSw); simp only [List.getElem?_toArray, List.getElem?_cons_zero, List.getElem?_cons_succ, Option.map_some]; refine congrArg some ?_; go_simp; (try with_reducible rfl)); (try simp only [Act.put, List.setIfInBounds_toArray, List.set_cons_zero, List.set_cons_succ]))
              (refine held_take 2 (some 47) ?_ rfl (by kernel_rfl) (by kernel_rfl) (by kernel_rfl) (by rfl) (fun _ _ _ h => h) (by assumption) (fun w hSw => ?_) ?_; rotate_left; ((try dsimp only at hSw); simp only [List.getElem?_toArray, List.getElem?_cons_zero, List.getElem?_cons_succ, Option.map_some]; refine congrArg some ?_; go_simp; (try with_reducible rfl)); (try simp only [Act.put, List.setIfInBounds_toArray, List.set_cons_zero, List.set_cons_succ]))
              (refine held_take 4 (some 49) ?_ rfl (by kernel_rfl) (by kernel_rfl) (by kernel_rfl) (by rfl) (fun _ _ _ h => h) (by assumption) (fun w hSw => ?_) ?_; rotate_left; ((try dsimp only at hSw); simp only [List.getElem?_toArray, List.getElem?_cons_zero, List.getElem?_cons_succ, Option.map_some]; refine congrArg some ?_; go_simp; (try with_reducible rfl)); (try simp only [Act.put, List.setIfInBounds_toArray, List.set_cons_zero, List.set_cons_succ]))
              have hB_v0 : Below wq.heap.size wq wq.drew := (Below.refl _ _).drew
              generalize wq.drew = v0 at *
              refine held_two 0 5 ⟨some 45, .buildSlice 23 0 #[], 23, _, _, none⟩ ⟨some 50, .buildSlice 23 1 #[(0, .tmp 49)], 23, _, _, none⟩ rfl rfl (by kernel_rfl) (by rfl) (by rfl) ?_ ?_
              · unfold Oper.wp
                go_simp
                have hB_v1 : Below wq.heap.size wq (v0.alloc (.cells #[] 50)) := hB_v0.alloc hB_v0.size _
                have own_v1 : (v0.alloc (.cells #[] 50)).ownsRow wq.heap.size 50 6 (.slice (some ⟨v0.heap.size, 0, none⟩) 0 0) 0 [] := World.ownsRow_made v0 #[] 0 hB_v0.size (Nat.zero_le _) (by simp)
                refine ⟨HS.out _ hB_v1, ?_⟩
                (try simp only [Act.put, List.setIfInBounds_toArray, List.set_cons_zero, List.set_cons_succ])
                generalize hv_v1 : v0.alloc (.cells #[] 50) = v1 at *
                refine held_two 3 5 ⟨some 48, .call { callee := .builtin .append, args := #[.tmp 45, .tmp 47], argTypes := #[23, 23] }, 23, _, _, none⟩ ⟨some 50, .buildSlice 23 1 #[(0, .tmp 49)], 23, _, _, none⟩ rfl rfl (by kernel_rfl) (by rfl) (by rfl) ?_ ?_
                · refine wp_append_lies _ (.tmp 45) (.tmp 47) 23 rfl wq.heap.size 50 zeroRul 6 64 Tryz.underlying23 info50 (by decide) (by decide) (.slice (some ⟨v0.heap.size, 0, none⟩) 0 0) 0 [] rfl own_v1 v1.heap.size A l.length c (rulesC l) rfl (rulesC_length l) (HL.out _ hB_v1) (rulesC_one l) (by have := HM.out; omega) (by omega) hB_v1.size wq hB_v1 ?_
                  intro r2 v2 own_v2 hB_v2 hg_v2
                  rw [Nat.zero_add, List.nil_append] at own_v2
                  refine ⟨HS.out _ hB_v2, ?_⟩
                  (try simp only [Act.put, List.setIfInBounds_toArray, List.set_cons_zero, List.set_cons_succ])
                  refine held_one 5 ⟨some 50, .buildSlice 23 1 #[(0, .tmp 49)], 23, _, _, none⟩ rfl (by kernel_rfl) (by rfl) ?_
                  unfold Oper.wp
                  go_simp
                  have hB_v3 : Below wq.heap.size wq (v2.alloc (.cells #[.int .i64 id, .int .i64 kn, .int .u8 kd, .string x, .string y, .int .i64 of] 50)) := hB_v2.alloc hB_v2.size _
                  have row_v3 : Bk (v2.alloc (.cells #[.int .i64 id, .int .i64 kn, .int .u8 kd, .string x, .string y, .int .i64 of] 50)) v2.heap.size 50 #[.int .i64 id, .int .i64 kn, .int .u8 kd, .string x, .string y, .int .i64 of] := Bk.new _ _ _
                  have own_v3 := ownsRow_below own_v2 ((Below.refl v2.heap.size v2).alloc (Nat.le_refl _) (.cells #[.int .i64 id, .int .i64 kn, .int .u8 kd, .string x, .string y, .int .i64 of] 50)) (Nat.le_refl _)
                  refine ⟨HS.out _ hB_v3, ?_⟩
                  (try simp only [Act.put, List.setIfInBounds_toArray, List.set_cons_zero, List.set_cons_succ])
                  generalize hv_v3 : v2.alloc (.cells #[.int .i64 id, .int .i64 kn, .int .u8 kd, .string x, .string y, .int .i64 of] 50) = v3 at *
                  refine held_one 6 ⟨some 51, .call { callee := .builtin .append, args := #[.tmp 48, .tmp 50], argTypes := #[23, 23] }, 23, _, _, none⟩ rfl (by kernel_rfl) (by rfl) ?_
                  refine wp_append1 _ (.tmp 48) (.tmp 50) 23 rfl wq.heap.size 50 zeroRul 6 64 Tryz.underlying23 info50 (by decide) (by decide) r2 l.length (rulesC l) rfl own_v3 (v2.heap.size) #[.int .i64 id, .int .i64 kn, .int .u8 kd, .string x, .string y, .int .i64 of] 50 rfl row_v3 (by simp) HO.out (by have := HM.out; omega) (by omega) hB_v3.size wq hB_v3 ?_
                  intro r4 v4 own_v4 hB_v4 hg_v4
                  refine ⟨HS.out _ hB_v4, ?_⟩
                  (try simp only [Act.put, List.setIfInBounds_toArray, List.set_cons_zero, List.set_cons_succ])
                  obtain ⟨A4, c4, rfl, hc4⟩ := ownsSlice own_v4
                  refine held_one 7 ⟨some 52, .call { callee := .value (.func 68), args := #[.tmp 51], argTypes := #[23] }, _, _, _, none⟩ rfl (by kernel_rfl) (by rfl) ?_
                  refine wp_call_int (f := 68) (args := #[.slice A4 (l.length + 1 : Nat) c4]) (by go_simp) (HRF.out _ _ _ (by have h := ownsRow_lies own_v4; rw [HSN.out] at h; exact h) hc4.1 hc4.2) ?_
                  intro uz hbz
                  have hB_z : Below wq.heap.size wq uz := hB_v4.trans (hbz.mono hB_v4.size)
                  have hS_z := HS.out _ hB_z
                  refine ⟨hS_z, ?_⟩
                  (try simp only [Act.put, List.setIfInBounds_toArray, List.set_cons_zero, List.set_cons_succ])
                  (refine held_take 8 (some 8) ?_ rfl (by kernel_rfl) (by kernel_rfl) (by kernel_rfl) (by rfl) (fun _ _ _ h => h) (by assumption) (fun w hSw => ?_) ?_; rotate_left; ((try dsimp only at hSw); simp only [List.getElem?_toArray, List.getElem?_cons_zero, List.getElem?_cons_succ, Option.map_some]; refine congrArg some ?_; go_simp; (try with_reducible rfl)); (try simp only [Act.put, List.setIfInBounds_toArray, List.set_cons_zero, List.set_cons_succ]))
                  refine wpAnyH_done (by kernel_rfl) ?_ _
                  clear hHeld hS_z
                  go_wp2_with fail
                  go_meet
                  exact ⟨rfl, Lib.hid hB_z⟩
                · unfold Oper.wp
                  go_simp
                  have hB_v5 : Below wq.heap.size wq (v1.alloc (.cells #[.int .i64 id, .int .i64 kn, .int .u8 kd, .string x, .string y, .int .i64 of] 50)) := hB_v1.alloc hB_v1.size _
                  have row_v5 : Bk (v1.alloc (.cells #[.int .i64 id, .int .i64 kn, .int .u8 kd, .string x, .string y, .int .i64 of] 50)) v1.heap.size 50 #[.int .i64 id, .int .i64 kn, .int .u8 kd, .string x, .string y, .int .i64 of] := Bk.new _ _ _
                  have own_v5 := ownsRow_below own_v1 ((Below.refl v1.heap.size v1).alloc (Nat.le_refl _) (.cells #[.int .i64 id, .int .i64 kn, .int .u8 kd, .string x, .string y, .int .i64 of] 50)) (Nat.le_refl _)
                  refine ⟨HS.out _ hB_v5, ?_⟩
                  (try simp only [Act.put, List.setIfInBounds_toArray, List.set_cons_zero, List.set_cons_succ])
                  have ne_v5 := blk_ne (show v1.heap.size ≠ v0.heap.size from by have h := (own_v1.lt (v0.heap.size) rfl).2; omega)
                  generalize hv_v5 : v1.alloc (.cells #[.int .i64 id, .int .i64 kn, .int .u8 kd, .string x, .string y, .int .i64 of] 50) = v5 at *
                  refine held_one 3 ⟨some 48, .call { callee := .builtin .append, args := #[.tmp 45, .tmp 47], argTypes := #[23, 23] }, 23, _, _, none⟩ rfl (by kernel_rfl) (by rfl) ?_
                  refine wp_append_lies _ (.tmp 45) (.tmp 47) 23 rfl wq.heap.size 50 zeroRul 6 64 Tryz.underlying23 info50 (by decide) (by decide) (.slice (some ⟨v0.heap.size, 0, none⟩) 0 0) 0 [] rfl own_v5 v5.heap.size A l.length c (rulesC l) rfl (rulesC_length l) (HL.out _ hB_v5) (rulesC_one l) (by have := HM.out; omega) (by omega) hB_v5.size wq hB_v5 ?_
                  intro r6 v6 own_v6 hB_v6 hg_v6
                  rw [Nat.zero_add, List.nil_append] at own_v6
                  have row_v6 := row_v5.grown hg_v6 ne_v5
                  refine ⟨HS.out _ hB_v6, ?_⟩
                  (try simp only [Act.put, List.setIfInBounds_toArray, List.set_cons_zero, List.set_cons_succ])
                  refine held_one 6 ⟨some 51, .call { callee := .builtin .append, args := #[.tmp 48, .tmp 50], argTypes := #[23, 23] }, 23, _, _, none⟩ rfl (by kernel_rfl) (by rfl) ?_
                  refine wp_append1 _ (.tmp 48) (.tmp 50) 23 rfl wq.heap.size 50 zeroRul 6 64 Tryz.underlying23 info50 (by decide) (by decide) r6 l.length (rulesC l) rfl own_v6 (v1.heap.size) #[.int .i64 id, .int .i64 kn, .int .u8 kd, .string x, .string y, .int .i64 of] 50 rfl row_v6 (by simp) HO.out (by have := HM.out; omega) (by omega) hB_v6.size wq hB_v6 ?_
                  intro r7 v7 own_v7 hB_v7 hg_v7
                  refine ⟨HS.out _ hB_v7, ?_⟩
                  (try simp only [Act.put, List.setIfInBounds_toArray, List.set_cons_zero, List.set_cons_succ])
                  obtain ⟨A7, c7, rfl, hc7⟩ := ownsSlice own_v7
                  refine held_one 7 ⟨some 52, .call { callee := .value (.func 68), args := #[.tmp 51], argTypes := #[23] }, _, _, _, none⟩ rfl (by kernel_rfl) (by rfl) ?_
                  refine wp_call_int (f := 68) (args := #[.slice A7 (l.length + 1 : Nat) c7]) (by go_simp) (HRF.out _ _ _ (by have h := ownsRow_lies own_v7; rw [HSN.out] at h; exact h) hc7.1 hc7.2) ?_
                  intro uz hbz
                  have hB_z : Below wq.heap.size wq uz := hB_v7.trans (hbz.mono hB_v7.size)
                  have hS_z := HS.out _ hB_z
                  refine ⟨hS_z, ?_⟩
                  (try simp only [Act.put, List.setIfInBounds_toArray, List.set_cons_zero, List.set_cons_succ])
                  (refine held_take 8 (some 8) ?_ rfl (by kernel_rfl) (by kernel_rfl) (by kernel_rfl) (by rfl) (fun _ _ _ h => h) (by assumption) (fun w hSw => ?_) ?_; rotate_left; ((try dsimp only at hSw); simp only [List.getElem?_toArray, List.getElem?_cons_zero, List.getElem?_cons_succ, Option.map_some]; refine congrArg some ?_; go_simp; (try with_reducible rfl)); (try simp only [Act.put, List.setIfInBounds_toArray, List.set_cons_zero, List.set_cons_succ]))
                  refine wpAnyH_done (by kernel_rfl) ?_ _
                  clear hHeld hS_z
                  go_wp2_with fail
                  go_meet
                  exact ⟨rfl, Lib.hid hB_z⟩
              · unfold Oper.wp
                go_simp
                have hB_v8 : Below wq.heap.size wq (v0.alloc (.cells #[.int .i64 id, .int .i64 kn, .int .u8 kd, .string x, .string y, .int .i64 of] 50)) := hB_v0.alloc hB_v0.size _
                have row_v8 : Bk (v0.alloc (.cells #[.int .i64 id, .int .i64 kn, .int .u8 kd, .string x, .string y, .int .i64 of] 50)) v0.heap.size 50 #[.int .i64 id, .int .i64 kn, .int .u8 kd, .string x, .string y, .int .i64 of] := Bk.new _ _ _
                refine ⟨HS.out _ hB_v8, ?_⟩
                (try simp only [Act.put, List.setIfInBounds_toArray, List.set_cons_zero, List.set_cons_succ])
                generalize hv_v8 : v0.alloc (.cells #[.int .i64 id, .int .i64 kn, .int .u8 kd, .string x, .string y, .int .i64 of] 50) = v8 at *
                refine held_one 0 ⟨some 45, .buildSlice 23 0 #[], 23, _, _, none⟩ rfl (by kernel_rfl) (by rfl) ?_
                unfold Oper.wp
                go_simp
                have hB_v9 : Below wq.heap.size wq (v8.alloc (.cells #[] 50)) := hB_v8.alloc hB_v8.size _
                have own_v9 : (v8.alloc (.cells #[] 50)).ownsRow wq.heap.size 50 6 (.slice (some ⟨v8.heap.size, 0, none⟩) 0 0) 0 [] := World.ownsRow_made v8 #[] 0 hB_v8.size (Nat.zero_le _) (by simp)
                have row_v9 := row_v8.alloc (.cells #[] 50)
                refine ⟨HS.out _ hB_v9, ?_⟩
                (try simp only [Act.put, List.setIfInBounds_toArray, List.set_cons_zero, List.set_cons_succ])
                have ne_v9 := blk_ne (show v0.heap.size ≠ v8.heap.size from by have h := row_v8.lt; omega)
                generalize hv_v9 : v8.alloc (.cells #[] 50) = v9 at *
                refine held_one 3 ⟨some 48, .call { callee := .builtin .append, args := #[.tmp 45, .tmp 47], argTypes := #[23, 23] }, 23, _, _, none⟩ rfl (by kernel_rfl) (by rfl) ?_
                refine wp_append_lies _ (.tmp 45) (.tmp 47) 23 rfl wq.heap.size 50 zeroRul 6 64 Tryz.underlying23 info50 (by decide) (by decide) (.slice (some ⟨v8.heap.size, 0, none⟩) 0 0) 0 [] rfl own_v9 v9.heap.size A l.length c (rulesC l) rfl (rulesC_length l) (HL.out _ hB_v9) (rulesC_one l) (by have := HM.out; omega) (by omega) hB_v9.size wq hB_v9 ?_
                intro r10 v10 own_v10 hB_v10 hg_v10
                rw [Nat.zero_add, List.nil_append] at own_v10
                have row_v10 := row_v9.grown hg_v10 ne_v9
                refine ⟨HS.out _ hB_v10, ?_⟩
                (try simp only [Act.put, List.setIfInBounds_toArray, List.set_cons_zero, List.set_cons_succ])
                refine held_one 6 ⟨some 51, .call { callee := .builtin .append, args := #[.tmp 48, .tmp 50], argTypes := #[23, 23] }, 23, _, _, none⟩ rfl (by kernel_rfl) (by rfl) ?_
                refine wp_append1 _ (.tmp 48) (.tmp 50) 23 rfl wq.heap.size 50 zeroRul 6 64 Tryz.underlying23 info50 (by decide) (by decide) r10 l.length (rulesC l) rfl own_v10 (v0.heap.size) #[.int .i64 id, .int .i64 kn, .int .u8 kd, .string x, .string y, .int .i64 of] 50 rfl row_v10 (by simp) HO.out (by have := HM.out; omega) (by omega) hB_v10.size wq hB_v10 ?_
                intro r11 v11 own_v11 hB_v11 hg_v11
                refine ⟨HS.out _ hB_v11, ?_⟩
                (try simp only [Act.put, List.setIfInBounds_toArray, List.set_cons_zero, List.set_cons_succ])
                obtain ⟨A11, c11, rfl, hc11⟩ := ownsSlice own_v11
                refine held_one 7 ⟨some 52, .call { callee := .value (.func 68), args := #[.tmp 51], argTypes := #[23] }, _, _, _, none⟩ rfl (by kernel_rfl) (by rfl) ?_
                refine wp_call_int (f := 68) (args := #[.slice A11 (l.length + 1 : Nat) c11]) (by go_simp) (HRF.out _ _ _ (by have h := ownsRow_lies own_v11; rw [HSN.out] at h; exact h) hc11.1 hc11.2) ?_
                intro uz hbz
                have hB_z : Below wq.heap.size wq uz := hB_v11.trans (hbz.mono hB_v11.size)
                have hS_z := HS.out _ hB_z
                refine ⟨hS_z, ?_⟩
                (try simp only [Act.put, List.setIfInBounds_toArray, List.set_cons_zero, List.set_cons_succ])
                (refine held_take 8 (some 8) ?_ rfl (by kernel_rfl) (by kernel_rfl) (by kernel_rfl) (by rfl) (fun _ _ _ h => h) (by assumption) (fun w hSw => ?_) ?_; rotate_left; ((try dsimp only at hSw); simp only [List.getElem?_toArray, List.getElem?_cons_zero, List.getElem?_cons_succ, Option.map_some]; refine congrArg some ?_; go_simp; (try with_reducible rfl)); (try simp only [Act.put, List.setIfInBounds_toArray, List.set_cons_zero, List.set_cons_succ]))
                refine wpAnyH_done (by kernel_rfl) ?_ _
                clear hHeld hS_z
                go_wp2_with fail
                go_meet
                exact ⟨rfl, Lib.hid hB_z⟩
            case rest =>
              obtain ⟨e8, hbx⟩ := hcut
              subst e8
              generalize wc = wx at *
              have HP5 := Lib.hid (HP3.out.step hbx.out)
              have HSX := Lib.hid (HS.out _ hbx.out)
              clear HS HL hbx HX HP3 HRF
              by_cases hz : er = 0
              · subst hz
                have HO2 := HO1.out rfl
                have HF2 := Lib.hid (HFS.out rfl)
                have HL2 := Lib.hid (HLT.out rfl)
                replace HO2 := Lib.hid HO2
                clear HO1 HFS HLT HJ HKR HB1 HSM
                obtain ⟨s0, s1, s2, s3, s4, s5, s6⟩ := HSX.out
                go_wp2_with (at_builtin; refine wpList_append1 rfl (.tmp 61) (.tmp 63) 23 rfl (w1.heap.size + 1) 50 zeroRul 6 64 Tryz.underlying23 info50 (by decide) (by decide) _ l.length (rulesC l) rfl (ownsRow_below HP5.out.own ((Below.refl wx.heap.size wx).alloc (Nat.le_refl _) (.cells #[.int .i64 id, .int .i64 kn, .int .u8 kd, .string x, .string y, .int .i64 of] 50)) (Nat.le_refl _)) wx.heap.size #[.int .i64 id, .int .i64 kn, .int .u8 kd, .string x, .string y, .int .i64 of] 50 rfl (Bk.new _ _ _) rfl HO.out ?c2 (by decide) ?c3 w1.heap.size w1 ?c4 (Nat.le_succ _) ?_)
                case c2 => have := HM.out; omega
                case c3 => have h1 := HP5.out.book.lt; simp; omega
                case c4 => exact HP5.out.bel.alloc HP5.out.bel.size _
                intro v' w7 ho7 hb7 hbb7
                have book7 := Lib.hid ((HP5.out.book.alloc (.cells #[.int .i64 id, .int .i64 kn, .int .u8 kd, .string x, .string y, .int .i64 of] 50)).below hbb7 (Nat.lt_succ_self _))
                have HON : Hid (w7.ownsRow (w1.heap.size + 1) 50 6 v' (l.length + 1) (rulesC (l ++ [rr]))) := by show World.ownsRow _ _ _ _ _ _ _; rw [← HSN.out]; exact ho7
                clear ho7 hbb7
                obtain ⟨A7, c7, rfl, hc7⟩ := ownsSlice HON.out
                have q0 := book7.out.cell 0 rfl
                have q1 := book7.out.fro 0
                clear s0 s1 s2 s3 s4 s5 s6 HSX
                go_wp2_with fail
                go_roundw
                case rel =>
                  refine ⟨k + 1, l ++ [rr], A7, c7, by omega, by go_num, ⟨HO2.out, ⟨HROK.out, by have := HL2.out; simp; omega⟩, HF2.out, ?_, ?_, hb7.setCell (p := ⟨w1.heap.size, 0, none⟩) (Nat.le_refl _) _⟩⟩
                  · rw [List.length_append]; exact book7.out.set 0 _
                  · have h1 := (far_setCells w1.heap.size [.slice A7 (l.length + 1) c7] 0 w7).own HON.out (Nat.lt_succ_self _)
                    rw [List.length_append]; exact h1
                case measure => simp [intOf]; omega
              · have HTT := Lib.hid (HJ.out hz)
                have hR' : (er == 0) = false := by simpa using hz
                have hR2 : (er != 0) = true := by rw [bne, hR']; rfl
                have HKK := Lib.hid (HKR.out _ HP5.out.bel)
                have HR2 := Lib.hid (prsR_bad HBG.out HTT.out hz)
                have HBE := Lib.hid (HB1.out _ HP5.out.bel)
                clear hz HO1 HFS HLT HJ HKR HB1 HSM
                go_wp2_with (first | (refine wpList_store_blk (P := Tryz.prog) rfl 25 (.tmp 2) (.tmp 55) rfl w.heap.size #[.slice none 0 0] #[.slice none 0 0] rfl rfl HKK.out.1 rfl info25 (by intro v hv; simp at hv; subst hv; rfl) ?_; intro W8 k8 f8) | (refine wpList_store_blk (P := Tryz.prog) rfl 28 (.tmp 3) (.tmp 59) rfl (w.heap.size + 1) #[.int .i64 0, .int .i64 0, .int .i64 0] #[.int .i64 er, .int .i64 ((k : Int) + 1), .int .i64 0] rfl rfl (f8.bk (by omega) HKK.out.2) rfl info28 (by intro v hv; simp at hv; rcases hv with rfl | rfl | rfl <;> rfl) ?_; intro W9 k9 f9))
                have k89 := f9.bk (by omega) k8
                refine bodyPost_ret (results_two rfl _ _ w.heap.size (w.heap.size + 1) [.slice none 0 0] [.int .i64 er, .int .i64 ((k : Int) + 1), .int .i64 0] _ _ rfl rfl k89.range Tryz.underlying25 rfl info25 k9.range Tryz.underlying28 rfl info28) rfl ?_
                exact parse_bad HR2.out (f9.bel _ _ (by omega) (f8.bel _ _ (Nat.le_refl _) HBE.out))
    · obtain rfl : k = L.length := by omega
      have HRD : Hid (prsR src = (0, 0, l)) := by
        obtain ⟨at_, h1⟩ := hP.out.run
        rw [List.drop_length] at h1
        exact prsR_good HBG.out h1.symm
      have HKK := Lib.hid (HKR.out _ hP.out.bel)
      have HBE := Lib.hid (HB1.out _ hP.out.bel)
      have HLI : Hid (Lies wr wr.heap.size A (rulesC l)) := ownsRow_lies hP.out.own
      have HGE := Lib.hid (own_ge hP.out.own)
      have HCC : Hid (l.length ≤ c ∧ c ≤ maxLen) := by
        obtain ⟨A', c', e, h⟩ := ownsSlice hP.out.own
        cases e; exact h
      have HOK := Lib.hid hP.out.ok
      have c0 := hP.out.book.cell 0 rfl
      clear hP HKR HB1 HSM HL1
      go_wp2_with (first | (refine wpList_store_blk (P := Tryz.prog) rfl 25 (.tmp 2) (.tmp 66) rfl w.heap.size #[.slice none 0 0] #[.slice A l.length c] rfl rfl HKK.out.1 rfl info25 (by intro v hv; simp at hv; subst hv; rfl) ?_; intro W8 k8 f8) | (refine wpList_store_blk (P := Tryz.prog) rfl 28 (.tmp 3) (.tmp 67) rfl (w.heap.size + 1) #[.int .i64 0, .int .i64 0, .int .i64 0] #[.int .i64 0, .int .i64 0, .int .i64 0] rfl rfl (f8.bk (by omega) HKK.out.2) rfl info28 (by intro v hv; simp at hv; subst hv; rfl) ?_; intro W9 k9 f9))
      have k89 := f9.bk (by omega) k8
      refine bodyPost_ret (results_two rfl _ _ w.heap.size (w.heap.size + 1) [.slice A l.length c] [.int .i64 0, .int .i64 0, .int .i64 0] _ _ rfl rfl k89.range Tryz.underlying25 rfl info25 k9.range Tryz.underlying28 rfl info28) rfl ?_
      have hl1 := f8.lies HLI.out (fun ad e => by have := HGE.out ad e; omega)
      have hl2 := f9.lies hl1 (fun ad e => by have := HGE.out ad e; omega)
      exact ⟨0, 0, l, A, c, HRD.out, rfl, hl2.more (by rw [f9.size, f8.size]; exact Nat.le_refl _), HCC.out, HOK.out, f9.bel _ _ (by omega) (f8.bel _ _ (Nat.le_refl _) HBE.out)⟩
end Go.Proofs.YtkfeagokmcakgaaGreatDoor

namespace Go.Proofs.YtkfeagokmcakgaaGreatDoor
open Go.RowKit

theorem same_prs {src : ByteArray} {k at_ : Int} {l : List Rul} {w w' : World} {e : Ending} (h : prsR src = (k, at_, l)) (hp : ParseE src w e w') : ∃ A c, e = .returned (.tuple #[.agg #[.slice A l.length c], .agg #[.int .i64 k, .int .i64 at_, .int .i64 0]]) ∧ Lies w' w'.heap.size A (rulesC l) ∧ (l.length ≤ c ∧ c ≤ maxLen) ∧ (RulOK l ∧ l.length ≤ 200) ∧ Below w.heap.size w w' := by
  obtain ⟨k', at', l', A, c, h1, h2, h3⟩ := hp
  rw [h] at h1
  cases h1
  exact ⟨A, c, h2, h3⟩
set_option maxHeartbeats 2500000 in
set_option maxRecDepth 100000 in
theorem lawParses_any (src : ByteArray) (w : World) (hg : Glob w) (hlz : src.size ≤ maxLen) :
    Calls Tryz.prog 3 #[.string src] w (fun e w' => e = .returned (.bool true) ∧ Below w.heap.size w w') := by
  have hl2 : (src.size : Int) ≤ 9223372036854775807 := by unfold maxLen at hlz; omega
  have HG : Hid (∀ V, Below w.heap.size w V → Glob V) := fun V hV => hg.step hV
  have HR : Hid (∀ V, Below w.heap.size w V → Calls Tryz.prog 17 #[] V (fun e w' => e = .returned (.bool true) ∧ Below V.heap.size V w')) := fun V hV => ruled_any V (HG.out V hV)
  have hB0 : Below w.heap.size w w := Below.refl _ _
  clear hg hlz
  by_cases hm : 1000 < src.size ∧ src.size ≤ 20000
  · have i1 : (1000 : Int) < src.size := by omega
    have i2 : (src.size : Int) ≤ 20000 := by omega
    go_enter Tryz.func3, Tryz.ntmps3
    go_wp2_with (go_at_call 17; refine (HR.out _ hB0).mono ?_; rintro e w1 ⟨rfl, hb⟩)
    go_ret
    exact ⟨rfl, hb⟩
  by_cases hz : 30000 < src.size
  · have i1 : (1000 : Int) < src.size := by omega
    have i2 : ¬ (src.size : Int) ≤ 20000 := by omega
    have i3 : (30000 : Int) < src.size := by omega
    go_enter Tryz.func3, Tryz.ntmps3
    go_wp2_with (go_at_call 17; refine (HR.out _ hB0).mono ?_; rintro e w1 ⟨rfl, hb⟩)
    go_ret
    exact ⟨rfl, hb⟩
  have i3 : ¬ (30000 : Int) < src.size := by omega
  have hs : src.size ≤ 1000 ∨ 20000 < src.size := by omega
  obtain ⟨k, at_, l, hT⟩ : ∃ k at_ l, prsR src = (k, at_, l) := ⟨(prsR src).1, (prsR src).2.1, (prsR src).2.2, rfl⟩
  have HP1 : Hid (∀ V, Below w.heap.size w V → Calls Tryz.prog 18 #[.string src] V (fun e w' => ∃ A c, e = .returned (.tuple #[.agg #[.slice A l.length c], .agg #[.int .i64 k, .int .i64 at_, .int .i64 0]]) ∧ Lies w' w'.heap.size A (rulesC l) ∧ (l.length ≤ c ∧ c ≤ maxLen) ∧ (RulOK l ∧ l.length ≤ 200) ∧ Below V.heap.size V w')) := fun V hV =>
    (parse_any src V (HG.out V hV) hs (by omega)).mono fun e w' h => same_prs hT h
  have HP2 : Hid (∀ V, Below w.heap.size w V → Calls Tryz.prog 19 #[.string src] V (fun e w' => ∃ A c, e = .returned (.tuple #[.agg #[.slice A l.length c], .agg #[.int .i64 k, .int .i64 at_, .int .i64 0]]) ∧ Lies w' w'.heap.size A (rulesC l) ∧ (l.length ≤ c ∧ c ≤ maxLen) ∧ (RulOK l ∧ l.length ≤ 200) ∧ Below V.heap.size V w')) := fun V hV =>
    (rparse_any src V hs (by omega)).mono fun e w' h => same_prs hT h
  have HAG := Lib.hid (fun (h : k = 0) => prs_again (at_ := at_) (l := l) hs (by rw [← h]; exact hT))
  go_enter Tryz.func3, Tryz.ntmps3
  go_upto_region 1 with fail
  go_cut [21] (fun s21 wx => s21 = .bool false ∧ wx = w)
  case first =>
    clear HP1 HP2 HAG HG HR hT
    by_cases hk : src.size ≤ 1000
    · have j1 : ¬ (1000 : Int) < src.size := by omega
      clear hs hm hz hk
      go_wp2_with fail
      go_meet
      exact ⟨rfl, rfl⟩
    · have j1 : (1000 : Int) < src.size := by omega
      have j2 : ¬ (src.size : Int) ≤ 20000 := by omega
      clear hs hm hz hk
      go_wp2_with fail
      go_meet
      exact ⟨rfl, rfl⟩
  case rest =>
    obtain ⟨e21, ew⟩ := hcut
    subst e21
    obtain rfl : wc = w := ew
    go_upto_region 4 with (go_at_call 18; refine (HP1.out _ hB0).mono ?_; rintro e w1 ⟨A1, c1, rfl, hl1, hc1, hok, hb1⟩)
    have HA1 : Hid (Bk ((w1.alloc (.cells #[.slice A1 l.length c1] 25)).alloc (.cells #[.int .i64 k, .int .i64 at_, .int .i64 0] 28)) w1.heap.size 25 #[.slice A1 l.length c1]) := (Bk.new w1 25 #[.slice A1 l.length c1]).alloc _
    have HF1 : Hid (Bk ((w1.alloc (.cells #[.slice A1 l.length c1] 25)).alloc (.cells #[.int .i64 k, .int .i64 at_, .int .i64 0] 28)) (w1.heap.size + 1) 28 #[.int .i64 k, .int .i64 at_, .int .i64 0]) := Lib.hid (by have h := Bk.new (w1.alloc (.cells #[.slice A1 l.length c1] 25)) 28 #[.int .i64 k, .int .i64 at_, .int .i64 0]; simpa using h)
    have HW1 : Hid (Below w1.heap.size w1 ((w1.alloc (.cells #[.slice A1 l.length c1] 25)).alloc (.cells #[.int .i64 k, .int .i64 at_, .int .i64 0] 28))) := ((Below.refl _ _).alloc (Nat.le_refl _) _).alloc (by simp) _
    have HL1 : Hid (Lies ((w1.alloc (.cells #[.slice A1 l.length c1] 25)).alloc (.cells #[.int .i64 k, .int .i64 at_, .int .i64 0] 28)) ((w1.alloc (.cells #[.slice A1 l.length c1] 25)).alloc (.cells #[.int .i64 k, .int .i64 at_, .int .i64 0] 28)).heap.size A1 (rulesC l)) := lies_on hl1 HW1.out
    have hX1 : Below wc.heap.size wc ((w1.alloc (.cells #[.slice A1 l.length c1] 25)).alloc (.cells #[.int .i64 k, .int .i64 at_, .int .i64 0] 28)) := hb1.trans (HW1.out.mono hb1.size)
    generalize ((w1.alloc (.cells #[.slice A1 l.length c1] 25)).alloc (.cells #[.int .i64 k, .int .i64 at_, .int .i64 0] 28)) = X1 at *
    clear HP1 hl1 hb1 HW1
    go_upto_region 5 with (go_at_call 19; refine (HP2.out _ hX1).mono ?_; rintro e w2 ⟨A2, c2, rfl, hl2', hc2, hok2, hb2⟩; have hb2' := hX1.trans (hb2.mono hX1.size))
    have HA1' := Lib.hid (HA1.out.below hb2 HA1.out.lt)
    have HF1' := Lib.hid (HF1.out.below hb2 HF1.out.lt)
    have HL1' : Hid (Lies w2 w2.heap.size A1 (rulesC l)) := lies_on HL1.out hb2
    have HA3 : Hid (Bk ((w2.alloc (.cells #[.slice A2 l.length c2] 25)).alloc (.cells #[.int .i64 k, .int .i64 at_, .int .i64 0] 28)) w1.heap.size 25 #[.slice A1 l.length c1]) := (HA1'.out.alloc _).alloc _
    have HF3 : Hid (Bk ((w2.alloc (.cells #[.slice A2 l.length c2] 25)).alloc (.cells #[.int .i64 k, .int .i64 at_, .int .i64 0] 28)) (w1.heap.size + 1) 28 #[.int .i64 k, .int .i64 at_, .int .i64 0]) := (HF1'.out.alloc _).alloc _
    have HL3 : Hid (Lies ((w2.alloc (.cells #[.slice A2 l.length c2] 25)).alloc (.cells #[.int .i64 k, .int .i64 at_, .int .i64 0] 28)) ((w2.alloc (.cells #[.slice A2 l.length c2] 25)).alloc (.cells #[.int .i64 k, .int .i64 at_, .int .i64 0] 28)).heap.size A1 (rulesC l)) := lies_on HL1'.out (((Below.refl w2.heap.size w2).alloc (Nat.le_refl _) _).alloc (by simp) _)
    have HA2 : Hid (Bk ((w2.alloc (.cells #[.slice A2 l.length c2] 25)).alloc (.cells #[.int .i64 k, .int .i64 at_, .int .i64 0] 28)) w2.heap.size 25 #[.slice A2 l.length c2]) := (Bk.new w2 25 #[.slice A2 l.length c2]).alloc _
    have HF2 : Hid (Bk ((w2.alloc (.cells #[.slice A2 l.length c2] 25)).alloc (.cells #[.int .i64 k, .int .i64 at_, .int .i64 0] 28)) (w2.heap.size + 1) 28 #[.int .i64 k, .int .i64 at_, .int .i64 0]) := Lib.hid (by have h := Bk.new (w2.alloc (.cells #[.slice A2 l.length c2] 25)) 28 #[.int .i64 k, .int .i64 at_, .int .i64 0]; simpa using h)
    have HW2 : Hid (Below w2.heap.size w2 ((w2.alloc (.cells #[.slice A2 l.length c2] 25)).alloc (.cells #[.int .i64 k, .int .i64 at_, .int .i64 0] 28))) := ((Below.refl _ _).alloc (Nat.le_refl _) _).alloc (by simp) _
    have HL2 : Hid (Lies ((w2.alloc (.cells #[.slice A2 l.length c2] 25)).alloc (.cells #[.int .i64 k, .int .i64 at_, .int .i64 0] 28)) ((w2.alloc (.cells #[.slice A2 l.length c2] 25)).alloc (.cells #[.int .i64 k, .int .i64 at_, .int .i64 0] 28)).heap.size A2 (rulesC l)) := lies_on hl2' HW2.out
    have hX2 : Below wc.heap.size wc ((w2.alloc (.cells #[.slice A2 l.length c2] 25)).alloc (.cells #[.int .i64 k, .int .i64 at_, .int .i64 0] 28)) := hb2'.trans (HW2.out.mono hb2'.size)
    generalize ((w2.alloc (.cells #[.slice A2 l.length c2] 25)).alloc (.cells #[.int .i64 k, .int .i64 at_, .int .i64 0] 28)) = X2 at *
    clear HP2 hl2' hb2 hb2' HW2 HA1 HF1 HL1 HA1' HF1' HL1' hok2 hX1
    have HSR : Hid (∀ V, Below X2.heap.size X2 V → Calls Tryz.prog 20 #[.slice A1 l.length c1, .slice A2 l.length c2] V (ShEnd true V)) := fun V hV => sameRules_any l A1 A2 c1 c2 V (lies_on HL3.out hV) (lies_on HL2.out hV) (by have := hok.2; omega)
    have a0 := HA3.out.cell 0 rfl
    have b0 := HA2.out.cell 0 rfl
    have f0 := HF3.out.cell 0 rfl
    have g0 := HF2.out.cell 0 rfl
    have f1 := HF3.out.cell 1 rfl
    have g1 := HF2.out.cell 1 rfl
    have f2 := HF3.out.cell 2 rfl
    have g2 := HF2.out.cell 2 rfl
    have hR2 : Below X2.heap.size X2 X2 := Below.refl _ _
    go_upto_region 7 with (go_at_call 20; refine (HSR.out _ hR2).mono ?_; rintro e w3 ⟨rfl, hb3⟩)
    have HA4 := Lib.hid (HA3.out.below hb3 HA3.out.lt)
    have HF4 := Lib.hid (HF3.out.below hb3 HF3.out.lt)
    have HL4 : Hid (Lies w3 w3.heap.size A1 (rulesC l)) := lies_on HL3.out hb3
    have hb4 : Below wc.heap.size wc w3 := hX2.trans (hb3.mono hX2.size)
    clear a0 b0 f0 f1 f2 g0 g1 g2 HA3 HF3 HL3 HA2 HF2 HL2 HSR hR2 hb3 hX2
    have a0 := HA4.out.cell 0 rfl
    have f0 := HF4.out.cell 0 rfl
    by_cases hk0 : k = 0
    case neg =>
      have e0 : (k == 0) = false := by simpa using hk0
      clear HAG hk0
      go_wp2_with (go_at_call 17; refine (HR.out _ hb4).mono ?_; rintro e w5 ⟨rfl, hb5⟩)
      go_ret
      exact ⟨rfl, hb4.trans (hb5.mono hb4.size)⟩
    obtain ⟨hF, hA, hz1, hz2⟩ := HAG.out hk0
    subst hk0
    have HPR : Hid (∀ V, Below w3.heap.size w3 V → Calls Tryz.prog 21 #[.agg #[.slice A1 l.length c1]] V (ValEnd (.string (prnB l)) V)) := fun V hV => print_any l A1 c1 V (lies_on HL4.out hV) (HG.out _ (hb4.trans (hV.mono hb4.size))) hok.1 (by have := hok.2; omega) hc1.1 hc1.2
    have HPA : Hid (∀ V, Below w3.heap.size w3 V → Calls Tryz.prog 18 #[.string (prnB l)] V (fun e w' => ∃ A c, e = .returned (.tuple #[.agg #[.slice A l.length c], .agg #[.int .i64 0, .int .i64 0, .int .i64 0]]) ∧ Lies w' w'.heap.size A (rulesC l) ∧ (l.length ≤ c ∧ c ≤ maxLen) ∧ (RulOK l ∧ l.length ≤ 200) ∧ Below V.heap.size V w')) := fun V hV =>
      (parse_wide (prnB l) V (HG.out _ (hb4.trans (hV.mono hb4.size))) (.inl ⟨hz1, hz2⟩) (by omega)).mono fun e w' h => same_prs hA h
    clear HAG hF hA hz1 hz2
    generalize prnB l = pl at *
    have hR3 : Below w3.heap.size w3 w3 := Below.refl _ _
    go_upto_region 9 with (first | (go_at_call 21; refine (HPR.out _ hR3).mono ?_; rintro e w5 ⟨rfl, hb5⟩; have hb5' := hR3.trans (hb5.mono hR3.size)) | (go_at_call 18; refine (HPA.out _ hb5').mono ?_; rintro e w6 ⟨A6, c6, rfl, hl6, hc6, hok6, hb6⟩; have hb6' := hb5'.trans (hb6.mono hb5'.size)))
    have HA5 := Lib.hid (HA4.out.below hb6' HA4.out.lt)
    have HL6' : Hid (Lies w6 w6.heap.size A1 (rulesC l)) := lies_on HL4.out hb6'
    have HA7 : Hid (Bk ((w6.alloc (.cells #[.slice A6 l.length c6] 25)).alloc (.cells #[.int .i64 0, .int .i64 0, .int .i64 0] 28)) w1.heap.size 25 #[.slice A1 l.length c1]) := (HA5.out.alloc _).alloc _
    have HL7 : Hid (Lies ((w6.alloc (.cells #[.slice A6 l.length c6] 25)).alloc (.cells #[.int .i64 0, .int .i64 0, .int .i64 0] 28)) ((w6.alloc (.cells #[.slice A6 l.length c6] 25)).alloc (.cells #[.int .i64 0, .int .i64 0, .int .i64 0] 28)).heap.size A1 (rulesC l)) := lies_on HL6'.out (((Below.refl w6.heap.size w6).alloc (Nat.le_refl _) _).alloc (by simp) _)
    have hb6w : Below wc.heap.size wc w6 := hb4.trans (hb6'.mono hb4.size)
    have HA6 : Hid (Bk ((w6.alloc (.cells #[.slice A6 l.length c6] 25)).alloc (.cells #[.int .i64 0, .int .i64 0, .int .i64 0] 28)) w6.heap.size 25 #[.slice A6 l.length c6]) := (Bk.new w6 25 #[.slice A6 l.length c6]).alloc _
    have HF6 : Hid (Bk ((w6.alloc (.cells #[.slice A6 l.length c6] 25)).alloc (.cells #[.int .i64 0, .int .i64 0, .int .i64 0] 28)) (w6.heap.size + 1) 28 #[.int .i64 0, .int .i64 0, .int .i64 0]) := Lib.hid (by have h := Bk.new (w6.alloc (.cells #[.slice A6 l.length c6] 25)) 28 #[.int .i64 0, .int .i64 0, .int .i64 0]; simpa using h)
    have HW6 : Hid (Below w6.heap.size w6 ((w6.alloc (.cells #[.slice A6 l.length c6] 25)).alloc (.cells #[.int .i64 0, .int .i64 0, .int .i64 0] 28))) := ((Below.refl _ _).alloc (Nat.le_refl _) _).alloc (by simp) _
    have HL6 : Hid (Lies ((w6.alloc (.cells #[.slice A6 l.length c6] 25)).alloc (.cells #[.int .i64 0, .int .i64 0, .int .i64 0] 28)) ((w6.alloc (.cells #[.slice A6 l.length c6] 25)).alloc (.cells #[.int .i64 0, .int .i64 0, .int .i64 0] 28)).heap.size A6 (rulesC l)) := lies_on hl6 HW6.out
    have hX6 : Below wc.heap.size wc ((w6.alloc (.cells #[.slice A6 l.length c6] 25)).alloc (.cells #[.int .i64 0, .int .i64 0, .int .i64 0] 28)) := hb6w.trans (HW6.out.mono hb6w.size)
    generalize ((w6.alloc (.cells #[.slice A6 l.length c6] 25)).alloc (.cells #[.int .i64 0, .int .i64 0, .int .i64 0] 28)) = X6 at *
    clear HPR HPA hb5 hb5' hb6 hb6' hb6w hl6 HA5 HL6' HW6 HA4 HF4 HL4 a0 f0 hb4 hok6
    have HSR : Hid (∀ V, Below X6.heap.size X6 V → Calls Tryz.prog 20 #[.slice A1 l.length c1, .slice A6 l.length c6] V (ShEnd true V)) := fun V hV => sameRules_any l A1 A6 c1 c6 V (lies_on HL7.out hV) (lies_on HL6.out hV) (by have := hok.2; omega)
    have HST : Hid (∀ V, Below X6.heap.size X6 V → V.cell? ⟨w1.heap.size, 0, none⟩ = some (.slice A1 l.length c1) ∧ V.cell? ⟨w6.heap.size, 0, none⟩ = some (.slice A6 l.length c6) ∧ V.cell? ⟨w6.heap.size + 1, 0, none⟩ = some (.int .i64 0) ∧ V.cell? ⟨w6.heap.size + 1, 1, none⟩ = some (.int .i64 0) ∧ V.cell? ⟨w6.heap.size + 1, 2, none⟩ = some (.int .i64 0)) := fun V hV => by
      have k6 := HF6.out.below hV HF6.out.lt
      exact ⟨(HA7.out.below hV HA7.out.lt).cell 0 rfl, (HA6.out.below hV HA6.out.lt).cell 0 rfl, k6.cell 0 rfl, k6.cell 1 rfl, k6.cell 2 rfl⟩
    have hR6 : Below X6.heap.size X6 X6 := Below.refl _ _
    go_wp2_with (first | (go_at_call 17; refine (HR.out _ hX6).mono ?_; rintro e w7 ⟨rfl, hb7⟩; have hb7' := hR6.trans (hb7.mono hR6.size); obtain ⟨s0, s1, s2, s3, s4⟩ := HST.out _ hb7') | (go_at_call 20; refine (HSR.out _ hb7').mono ?_; rintro e w8 ⟨rfl, hb8⟩))
    go_ret
    exact ⟨rfl, hX6.trans ((hb7'.trans (hb8.mono hb7'.size)).mono hX6.size)⟩
end Go.Proofs.YtkfeagokmcakgaaGreatDoor

namespace Go.Proofs.YtkfeagokmcakgaaGreatDoor
open Go.ChangeShapes Go.WideShapes Go.ChangeAt Go.RowKit Go.Deep

set_option maxHeartbeats 20000000 in
set_option maxRecDepth 100000 in
theorem parses_facts : joinedFacts Tryz.prog 3 Tryz.f3 Rows.pigmentParsesSpec Rows.pigmentParsesRow = true := by
  unfold joinedFacts
  simp only [Bool.and_eq_true]
  repeat' (refine And.intro ?_ ?_)
  all_goals (as_aux_lemma => kernel_rfl)
end Go.Proofs.YtkfeagokmcakgaaGreatDoor
