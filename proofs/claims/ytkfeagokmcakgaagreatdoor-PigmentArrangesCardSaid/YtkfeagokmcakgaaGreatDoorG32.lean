/- The reference's Why (fn 45). Printed by gen_n8.py. -/
import Derived.Test.YtkfeagokmcakgaaGreatDoorG07
import Derived.Test.YtkfeagokmcakgaaGreatDoorG31

set_option linter.unusedVariables false
set_option linter.unusedSimpArgs false

namespace Go.Proofs.YtkfeagokmcakgaaGreatDoor
open Go.RowKit

/-- the least id from I on of the rules that S takes -/
structure MinQ (S : Rul → Bool) (I : Int) (m : List Rul) (a : Int) : Prop where
  none_ : a < 0 → a = -1 ∧ ∀ r ∈ m, S r = true → r.id < I
  some_ : 0 ≤ a → (∃ r ∈ m, S r = true ∧ r.id = a) ∧ I ≤ a ∧ ∀ r ∈ m, S r = true → I ≤ r.id → a ≤ r.id
theorem MinQ.start (S : Rul → Bool) (I : Int) : MinQ S I [] (-1) := ⟨fun _ => ⟨rfl, fun r hr => by cases hr⟩, fun h => absurd h (by decide)⟩
theorem MinQ.skip {S : Rul → Bool} {I a : Int} {m : List Rul} {r : Rul} (h : MinQ S I m a) (hs : S r = true → I ≤ r.id → 0 ≤ a ∧ a ≤ r.id) : MinQ S I (m ++ [r]) a := by
  refine ⟨fun ha => ⟨(h.none_ ha).1, fun q hq hqs => ?_⟩, fun ha => ?_⟩
  · rcases List.mem_append.1 hq with h1 | h1
    · exact (h.none_ ha).2 q h1 hqs
    · simp at h1; subst h1
      by_cases hI : I ≤ q.id
      · have := (hs hqs hI).1; omega
      · omega
  · obtain ⟨⟨q, hq, h1, h2⟩, h3, h4⟩ := h.some_ ha
    refine ⟨⟨q, List.mem_append_left _ hq, h1, h2⟩, h3, fun p hp hps hpI => ?_⟩
    rcases List.mem_append.1 hp with g | g
    · exact h4 p g hps hpI
    · simp at g; subst g; exact (hs hps hpI).2
theorem MinQ.hit {S : Rul → Bool} {I a : Int} {m : List Rul} {r : Rul} (h : MinQ S I m a) (hs : S r = true) (hI : I ≤ r.id) (h1 : 1 ≤ I) (ha : a < 0 ∨ r.id < a) : MinQ S I (m ++ [r]) r.id := by
  refine ⟨fun h2 => by omega, fun _ => ⟨⟨r, by simp, hs, rfl⟩, hI, fun p hp hps hpI => ?_⟩⟩
  rcases List.mem_append.1 hp with g | g
  · rcases ha with ha | ha
    · have := (h.none_ ha).2 p g hps; omega
    · by_cases h0 : 0 ≤ a
      · have := (h.some_ h0).2.2 p g hps hpI; omega
      · have := (h.none_ (by omega)).2 p g hps; omega
  · simp at g; subst g; exact Int.le_refl _
/-- the ids below I of the rules that S takes -/
structure WhQ (S : Rul → Bool) (d : List Rul) (I : Int) (R : List Int) : Prop where
  srt : R.Pairwise fun a b => a < b
  mem : ∀ z, z ∈ R ↔ ((∃ r ∈ d, S r = true ∧ r.id = z) ∧ z < I)
theorem WhQ.start {S : Rul → Bool} {d : List Rul} (h : ∀ r ∈ d, 1 ≤ r.id ∧ r.id ≤ 1000000) : WhQ S d 1 [] := ⟨List.Pairwise.nil, fun z => ⟨fun h => (by cases h), fun ⟨⟨r, hr, _, e⟩, h2⟩ => by have := (h r hr).1; omega⟩⟩
theorem WhQ.len {S : Rul → Bool} {d : List Rul} {I : Int} {R : List Int} (h : WhQ S d I R) : R.length ≤ d.length := by
  have := nodup_len R (d.map Rul.id) (h.srt.imp (fun h => by omega)) (fun z hz => by
    obtain ⟨⟨r, hr, _, e⟩, _⟩ := (h.mem z).1 hz
    exact List.mem_map.2 ⟨r, hr, e⟩)
  simpa using this
theorem WhQ.full {S : Rul → Bool} {d : List Rul} {I : Int} {R : List Int} (h : WhQ S d I R) (hn : ¬ R.length < d.length) : ∀ z, z ∈ R ↔ ∃ r ∈ d, S r = true ∧ r.id = z := fun z => by
  constructor
  · exact fun hz => ((h.mem z).1 hz).1
  · intro hz
    refine Classical.byContradiction fun hno => ?_
    have := nodup_len (z :: R) (d.map Rul.id) (List.nodup_cons.2 ⟨hno, h.srt.imp (fun h => by omega)⟩) (fun y hy => by
      rcases List.mem_cons.1 hy with rfl | hy
      · obtain ⟨r, hr, _, e⟩ := hz
        exact List.mem_map.2 ⟨r, hr, e⟩
      · obtain ⟨⟨r, hr, _, e⟩, _⟩ := (h.mem y).1 hy
        exact List.mem_map.2 ⟨r, hr, e⟩)
    simp at this
    omega
theorem WhQ.past {S : Rul → Bool} {d : List Rul} {I : Int} {R : List Int} (h : WhQ S d I R) (hn : ∀ r ∈ d, S r = true → r.id < I) : ∀ z, z ∈ R ↔ ∃ r ∈ d, S r = true ∧ r.id = z := fun z => by
  rw [h.mem z]
  constructor
  · exact fun h => h.1
  · rintro ⟨r, hr, hs, e⟩
    exact ⟨⟨r, hr, hs, e⟩, by have := hn r hr hs; omega⟩
theorem WhQ.next {S : Rul → Bool} {d : List Rul} {I M : Int} {R : List Int} (h : WhQ S d I R) (hm : MinQ S I d M) (h0 : 0 ≤ M) : WhQ S d (M + 1) (R ++ [M]) := by
  obtain ⟨⟨r, hr, hs, e⟩, hI, hmin⟩ := hm.some_ h0
  refine ⟨?_, fun z => ?_⟩
  · rw [List.pairwise_append]
    refine ⟨h.srt, by simp, fun a ha b hb => ?_⟩
    simp at hb; subst hb
    have := ((h.mem a).1 ha).2
    omega
  · rw [List.mem_append, List.mem_singleton, h.mem z]
    constructor
    · rintro (⟨h1, h2⟩ | rfl)
      · exact ⟨h1, by omega⟩
      · exact ⟨⟨r, hr, hs, e⟩, by omega⟩
    · rintro ⟨⟨q, hq, hqs, rfl⟩, h2⟩
      by_cases hqI : q.id < I
      · exact .inl ⟨⟨q, hq, hqs, rfl⟩, hqI⟩
      · have := hmin q hq hqs (by omega)
        exact .inr (by omega)
def sayB (G : List ByteArray) (r : Rul) : Bool := aboB r 1 G || aboB r 2 G
theorem say_iff (d : List Rul) (x : ByteArray) (z : Int) : (∃ r ∈ d, sayB (grps d x) r = true ∧ r.id = z) ↔ sayP d x z := by
  have he : ∀ r, sayB (grps d x) r = abtB d x r := fun r => by
    unfold sayB aboB abtB inG
    cases decide (r.kind = 1) <;> cases decide (r.kind = 2) <;> cases decide (r.x ∈ grps d x) <;> rfl
  unfold sayP abtL
  constructor
  · rintro ⟨r, hr, hs, e⟩
    exact ⟨r, List.mem_filter.2 ⟨hr, by rw [← he]; exact hs⟩, e⟩
  · rintro ⟨r, hr, e⟩
    obtain ⟨h1, h2⟩ := List.mem_filter.1 hr
    exact ⟨r, h1, by rw [he]; exact h2, e⟩
def WhE (p : Int → Prop) (w : World) (e : Ending) (w' : World) : Prop := ∃ R A c, AscI R p ∧ R.length ≤ 1000 ∧ e = .returned (.slice A R.length c) ∧ Lies w' w'.heap.size A (ints R) ∧ Below w.heap.size w w'
theorem cnt_ids {l : List Rul} {known : Int} : ∀ r ∈ cntL l known, 1 ≤ r.id ∧ r.id ≤ 1000000 := fun r hr => by
  have h := (List.mem_filter.1 hr).2
  unfold cntB at h
  have hf : frm r = true := by cases hf : frm r <;> simp [hf] at h ⊢
  unfold frm at hf
  simp at hf
  omega
set_option maxHeartbeats 6000000 in
set_option maxRecDepth 100000 in
theorem rwhy_any (l : List Rul) (A : Option Addr) (c : Nat) (known : Int) (x : ByteArray) (w : World) (hl : Lies w w.heap.size A (rulesC l)) (hok : RulOK l) (hm : l.length ≤ 1000) :
    Calls Tryz.prog 45 #[.agg #[.slice A l.length c], .int .i64 known, .string x] w (WhE (sayP (cntL l known) x) w) := by
  have HC : Hid (∀ W, Below w.heap.size w W → Calls Tryz.prog 39 #[.agg #[.slice A l.length c], .int .i64 known] W (SlE (cntL l known) W)) := fun W hb => rcounting_any l A c known W ((hl.below hb (Nat.le_refl _)).more hb.size) hok hm
  have HG := Lib.hid (fun A' c' W hL => rgroups_any (cntL l known) A' c' x W hL (Nat.le_trans (cnt_len l known) hm))
  have hgl := grps_len (cntL l known) x
  have hdl := Nat.le_trans (cnt_len l known) hm
  have HID := Lib.hid (cnt_ids (l := l) (known := known))
  have HSY := Lib.hid (say_iff (cntL l known) x)
  generalize cntL l known = d at *
  generalize grps d x = G at *
  have HSD : Hid (∀ r, sayB G r = (aboB r 1 G || aboB r 2 G)) := fun _ => rfl
  have HQ0 : Hid (WhQ (sayB G) d 1 []) := WhQ.start HID.out
  have HEND : Hid (∀ R : List Int, R.Pairwise (fun a b => a < b) → (∀ z, z ∈ R ↔ ∃ r ∈ d, sayB G r = true ∧ r.id = z) → AscI R (sayP d x)) := fun R h1 h2 => ⟨h1, fun z => (h2 z).trans (HSY.out z)⟩
  have HTE : Hid (d.take d.length = d) := List.take_length
  clear hl hok HSY
  go_enter Tryz.func45, Tryz.ntmps45
  go_upto_region 5 with (first | (go_at_call 39; refine (HC.out _ (by repeat (first | with_reducible exact Below.refl _ _ | with_reducible assumption | with_reducible refine Below.drew ?_ | with_reducible refine below_drewN ?_ _ | (with_reducible refine Below.alloc ?_ ?_ _; rotate_left; (try simp) <;> omega) | (with_reducible refine Below.setCell ?_ ?_ _; rotate_left; (try simp) <;> omega)))).mono ?_; rintro e w1 ⟨A1, c1, rfl, hl1, _, hb1⟩; have hB1 : Below w.heap.size w w1 := Below.trans (by repeat (first | with_reducible exact Below.refl _ _ | with_reducible assumption | with_reducible refine Below.drew ?_ | with_reducible refine below_drewN ?_ _ | (with_reducible refine Below.alloc ?_ ?_ _; rotate_left; (try simp) <;> omega) | (with_reducible refine Below.setCell ?_ ?_ _; rotate_left; (try simp) <;> omega))) (hb1.mono (by simp))) | (go_at_call 76; refine (HG.out _ _ _ hl1).mono ?_; rintro e w2 ⟨A2, c2, rfl, hl2, _, hb2⟩))
  have hB2 : Below w.heap.size w w2 := hB1.trans (hb2.mono hB1.size)
  have HL1 : Hid (∀ V, Below w2.heap.size w2 V → Lies V V.heap.size A1 (rulesC d)) := fun V hV => lies_on (lies_on hl1 hb2) hV
  have HL2 : Hid (∀ V, Below w2.heap.size w2 V → Lies V V.heap.size A2 (strsC G)) := fun V hV => lies_on hl2 hV
  have hb22 : Below w2.heap.size w2 w2 := Below.refl _ _
  clear HC HG hl1 hl2 hb1 hb2 hB1
  go_loopw [9, 10] (fun v y wr => ∃ (R : List Int) (A' : Option Addr) (c' : Nat) (I : Int), v = .slice A' R.length c' ∧ y = .int .i64 I ∧ (1 ≤ I ∧ I ≤ 1000001) ∧ Hid (WhQ (sayB G) d I R) ∧ Hid (wr.ownsRow w2.heap.size 3 1 (.slice A' R.length c') R.length (ints R)) ∧ R.length ≤ d.length ∧ Below w2.heap.size w2 wr) (fun _ y _ => (1000001 - intOf y).toNat)
  case atStart => exact ⟨[], none, 0, 1, rfl, rfl, by omega, HQ0, World.ownsRow_nil _ _ _ _, by simp, hb22⟩
  case round =>
    obtain ⟨R, A', c', I, rfl, rfl, hI, hQ, ho, hRl, hbw⟩ := hrel
    clear HQ0 hb22
    by_cases hc1 : I ≤ 1000000
    case neg =>
      have HA := Lib.hid (HEND.out R hQ.out.srt (hQ.out.past (fun r hr _ => by have := (HID.out r hr).2; omega)))
      have hLI := Lib.hid (ownsRow_lies ho.out)
      have hBF := Lib.hid (hB2.trans (hbw.mono hB2.size))
      clear HEND hQ HID HL1 HL2 HSD HTE
      go_wp2
      go_ret
      exact ⟨R, A', c', HA.out, by omega, rfl, hLI.out, hBF.out⟩
    by_cases hc2 : R.length < d.length
    case neg =>
      have HA := Lib.hid (HEND.out R hQ.out.srt (hQ.out.full hc2))
      have hc21 : ¬ (R.length : Int) < (d.length : Int) := by omega
      have hLI := Lib.hid (ownsRow_lies ho.out)
      have hBF := Lib.hid (hB2.trans (hbw.mono hB2.size))
      clear HEND hQ HID HL1 HL2 HSD HTE
      go_wp2
      go_ret
      exact ⟨R, A', c', HA.out, by omega, rfl, hLI.out, hBF.out⟩
    have hc21 : (R.length : Int) < (d.length : Int) := by omega
    go_upto_region 9 with fail
    have HM0 : Hid (MinQ (sayB G) I (d.take 0) (-1)) := MinQ.start _ _
    have hbuu : Below wr.heap.size wr wr := Below.refl _ _
    have HWL : Hid (∀ V, Below wr.heap.size wr V → Below w2.heap.size w2 V) := fun V hV => hbw.trans (hV.mono hbw.size)
    generalize wr = wq at *
    go_loopw [11, 12] (fun v y wr => ∃ (k : Nat) (M : Int), k ≤ d.length ∧ v = .int .i64 M ∧ y = .int .i64 k ∧ Hid (MinQ (sayB G) I (d.take k) M) ∧ Below wq.heap.size wq wr) (fun _ y _ => d.length - (intOf y).toNat)
    case atStart => exact ⟨0, -1, by omega, rfl, rfl, HM0, hbuu⟩
    case round =>
      obtain ⟨k, M, hk, rfl, rfl, hM, hbv⟩ := hrel
      clear HM0 hbuu
      by_cases hkl : k < d.length
      · obtain ⟨ad, rfl, _, d0, d1, d2, d3, d4, d5⟩ := rule_at (HL1.out wr (HWL.out wr hbv)) hkl
        have HD : Hid (∀ V, Below wq.heap.size wq V → V.cell? (ad.add (k * 6)) = some (.int .i64 d[k].id) ∧ V.cell? ⟨(ad.add (k * 6)).block, (ad.add (k * 6)).off + 1, none⟩ = some (.int .i64 d[k].known) ∧ V.cell? ⟨(ad.add (k * 6)).block, (ad.add (k * 6)).off + 2, none⟩ = some (.int .u8 d[k].kind) ∧ V.cell? ⟨(ad.add (k * 6)).block, (ad.add (k * 6)).off + 3, none⟩ = some (.string d[k].x) ∧ V.cell? ⟨(ad.add (k * 6)).block, (ad.add (k * 6)).off + 4, none⟩ = some (.string d[k].y) ∧ V.cell? ⟨(ad.add (k * 6)).block, (ad.add (k * 6)).off + 5, none⟩ = some (.int .i64 d[k].of)) := fun V hV => by
          obtain ⟨ad2, e2, _, e0, e1, e3, e4, e5, e6⟩ := rule_at (HL1.out V (HWL.out V hV)) hkl
          cases e2
          exact ⟨e0, e1, e3, e4, e5, e6⟩
        have k1 : AboK wq d[k] 1 A2 G.length c2 (aboB d[k] 1 G) := ⟨fun V hV => rabout_any d[k] 1 G A2 c2 V (HL2.out V (HWL.out V hV)) (by omega)⟩
        have k2 : AboK wq d[k] 2 A2 G.length c2 (aboB d[k] 2 G) := ⟨fun V hV => rabout_any d[k] 2 G A2 c2 V (HL2.out V (HWL.out V hV)) (by omega)⟩
        have HSR := Lib.hid (HSD.out d[k])
        have HSKP : Hid ((sayB G d[k] = true → I ≤ d[k].id → 0 ≤ M ∧ M ≤ d[k].id) → MinQ (sayB G) I (d.take (k + 1)) M) := fun h => by rw [← List.take_append_getElem hkl]; exact hM.out.skip h
        have HHIT : Hid (sayB G d[k] = true → I ≤ d[k].id → (M < 0 ∨ d[k].id < M) → MinQ (sayB G) I (d.take (k + 1)) d[k].id) := fun h1 h2 h3 => by rw [← List.take_append_getElem hkl]; exact hM.out.hit h1 h2 hI.1 h3
        generalize aboB d[k] 1 G = a1 at *
        generalize aboB d[k] 2 G = a2 at *
        generalize sayB G d[k] = sb at *
        generalize d[k] = r at *
        obtain ⟨id, kn, kd, rx, ry, of⟩ := r
        dsimp only at *
        have HSR : Hid (sb = (a1 || a2)) := HSR.out
        clear hM HEND HID HTE HSD
        cases a1
        · cases a2
          · have HN : Hid (MinQ (sayB G) I (d.take (k + 1)) M) := HSKP.out (fun h => by rw [HSR.out] at h; cases h)
            clear HSKP HHIT HSR
            go_wp2_with (first | (go_at_call 96; refine (AboK.go (by assumption) (by assumption)).mono ?_; rintro e u ⟨rfl, hb⟩; have hbu : Below wq.heap.size wq u := Below.trans (by assumption) (hb.mono (Below.size (by assumption))); obtain ⟨s0, s1, s2, s3, s4, s5⟩ := HD.out u hbu; clear hb))
            go_roundw
            case rel => exact ⟨k + 1, M, by omega, rfl, by go_num, HN, hbu⟩
            case measure => simp [intOf]; omega
          · by_cases hi1 : I ≤ id
            case neg =>
              have HN : Hid (MinQ (sayB G) I (d.take (k + 1)) M) := HSKP.out (fun _ h => absurd h hi1)
              clear HSKP HHIT HSR
              go_wp2_with (first | (go_at_call 96; refine (AboK.go (by assumption) (by assumption)).mono ?_; rintro e u ⟨rfl, hb⟩; have hbu : Below wq.heap.size wq u := Below.trans (by assumption) (hb.mono (Below.size (by assumption))); obtain ⟨s0, s1, s2, s3, s4, s5⟩ := HD.out u hbu; clear hb))
              go_roundw
              case rel => exact ⟨k + 1, M, by omega, rfl, by go_num, HN, hbu⟩
              case measure => simp [intOf]; omega
            by_cases hm1 : M < 0
            · have HN : Hid (MinQ (sayB G) I (d.take (k + 1)) id) := HHIT.out (by rw [HSR.out]; rfl) hi1 (.inl hm1)
              clear HSKP HHIT HSR
              go_wp2_with (first | (go_at_call 96; refine (AboK.go (by assumption) (by assumption)).mono ?_; rintro e u ⟨rfl, hb⟩; have hbu : Below wq.heap.size wq u := Below.trans (by assumption) (hb.mono (Below.size (by assumption))); obtain ⟨s0, s1, s2, s3, s4, s5⟩ := HD.out u hbu; clear hb))
              go_roundw
              case rel => exact ⟨k + 1, id, by omega, rfl, by go_num, HN, hbu⟩
              case measure => simp [intOf]; omega
            · by_cases hm2 : id < M
              · have HN : Hid (MinQ (sayB G) I (d.take (k + 1)) id) := HHIT.out (by rw [HSR.out]; rfl) hi1 (.inr hm2)
                clear HSKP HHIT HSR
                go_wp2_with (first | (go_at_call 96; refine (AboK.go (by assumption) (by assumption)).mono ?_; rintro e u ⟨rfl, hb⟩; have hbu : Below wq.heap.size wq u := Below.trans (by assumption) (hb.mono (Below.size (by assumption))); obtain ⟨s0, s1, s2, s3, s4, s5⟩ := HD.out u hbu; clear hb))
                go_roundw
                case rel => exact ⟨k + 1, id, by omega, rfl, by go_num, HN, hbu⟩
                case measure => simp [intOf]; omega
              · have HN : Hid (MinQ (sayB G) I (d.take (k + 1)) M) := HSKP.out (fun _ _ => ⟨by omega, by omega⟩)
                clear HSKP HHIT HSR
                go_wp2_with (first | (go_at_call 96; refine (AboK.go (by assumption) (by assumption)).mono ?_; rintro e u ⟨rfl, hb⟩; have hbu : Below wq.heap.size wq u := Below.trans (by assumption) (hb.mono (Below.size (by assumption))); obtain ⟨s0, s1, s2, s3, s4, s5⟩ := HD.out u hbu; clear hb))
                go_roundw
                case rel => exact ⟨k + 1, M, by omega, rfl, by go_num, HN, hbu⟩
                case measure => simp [intOf]; omega
        · cases a2
          · by_cases hi1 : I ≤ id
            case neg =>
              have HN : Hid (MinQ (sayB G) I (d.take (k + 1)) M) := HSKP.out (fun _ h => absurd h hi1)
              clear HSKP HHIT HSR
              go_wp2_with (first | (go_at_call 96; refine (AboK.go (by assumption) (by assumption)).mono ?_; rintro e u ⟨rfl, hb⟩; have hbu : Below wq.heap.size wq u := Below.trans (by assumption) (hb.mono (Below.size (by assumption))); obtain ⟨s0, s1, s2, s3, s4, s5⟩ := HD.out u hbu; clear hb))
              go_roundw
              case rel => exact ⟨k + 1, M, by omega, rfl, by go_num, HN, hbu⟩
              case measure => simp [intOf]; omega
            by_cases hm1 : M < 0
            · have HN : Hid (MinQ (sayB G) I (d.take (k + 1)) id) := HHIT.out (by rw [HSR.out]; rfl) hi1 (.inl hm1)
              clear HSKP HHIT HSR
              go_wp2_with (first | (go_at_call 96; refine (AboK.go (by assumption) (by assumption)).mono ?_; rintro e u ⟨rfl, hb⟩; have hbu : Below wq.heap.size wq u := Below.trans (by assumption) (hb.mono (Below.size (by assumption))); obtain ⟨s0, s1, s2, s3, s4, s5⟩ := HD.out u hbu; clear hb))
              go_roundw
              case rel => exact ⟨k + 1, id, by omega, rfl, by go_num, HN, hbu⟩
              case measure => simp [intOf]; omega
            · by_cases hm2 : id < M
              · have HN : Hid (MinQ (sayB G) I (d.take (k + 1)) id) := HHIT.out (by rw [HSR.out]; rfl) hi1 (.inr hm2)
                clear HSKP HHIT HSR
                go_wp2_with (first | (go_at_call 96; refine (AboK.go (by assumption) (by assumption)).mono ?_; rintro e u ⟨rfl, hb⟩; have hbu : Below wq.heap.size wq u := Below.trans (by assumption) (hb.mono (Below.size (by assumption))); obtain ⟨s0, s1, s2, s3, s4, s5⟩ := HD.out u hbu; clear hb))
                go_roundw
                case rel => exact ⟨k + 1, id, by omega, rfl, by go_num, HN, hbu⟩
                case measure => simp [intOf]; omega
              · have HN : Hid (MinQ (sayB G) I (d.take (k + 1)) M) := HSKP.out (fun _ _ => ⟨by omega, by omega⟩)
                clear HSKP HHIT HSR
                go_wp2_with (first | (go_at_call 96; refine (AboK.go (by assumption) (by assumption)).mono ?_; rintro e u ⟨rfl, hb⟩; have hbu : Below wq.heap.size wq u := Below.trans (by assumption) (hb.mono (Below.size (by assumption))); obtain ⟨s0, s1, s2, s3, s4, s5⟩ := HD.out u hbu; clear hb))
                go_roundw
                case rel => exact ⟨k + 1, M, by omega, rfl, by go_num, HN, hbu⟩
                case measure => simp [intOf]; omega
          · by_cases hi1 : I ≤ id
            case neg =>
              have HN : Hid (MinQ (sayB G) I (d.take (k + 1)) M) := HSKP.out (fun _ h => absurd h hi1)
              clear HSKP HHIT HSR
              go_wp2_with (first | (go_at_call 96; refine (AboK.go (by assumption) (by assumption)).mono ?_; rintro e u ⟨rfl, hb⟩; have hbu : Below wq.heap.size wq u := Below.trans (by assumption) (hb.mono (Below.size (by assumption))); obtain ⟨s0, s1, s2, s3, s4, s5⟩ := HD.out u hbu; clear hb))
              go_roundw
              case rel => exact ⟨k + 1, M, by omega, rfl, by go_num, HN, hbu⟩
              case measure => simp [intOf]; omega
            by_cases hm1 : M < 0
            · have HN : Hid (MinQ (sayB G) I (d.take (k + 1)) id) := HHIT.out (by rw [HSR.out]; rfl) hi1 (.inl hm1)
              clear HSKP HHIT HSR
              go_wp2_with (first | (go_at_call 96; refine (AboK.go (by assumption) (by assumption)).mono ?_; rintro e u ⟨rfl, hb⟩; have hbu : Below wq.heap.size wq u := Below.trans (by assumption) (hb.mono (Below.size (by assumption))); obtain ⟨s0, s1, s2, s3, s4, s5⟩ := HD.out u hbu; clear hb))
              go_roundw
              case rel => exact ⟨k + 1, id, by omega, rfl, by go_num, HN, hbu⟩
              case measure => simp [intOf]; omega
            · by_cases hm2 : id < M
              · have HN : Hid (MinQ (sayB G) I (d.take (k + 1)) id) := HHIT.out (by rw [HSR.out]; rfl) hi1 (.inr hm2)
                clear HSKP HHIT HSR
                go_wp2_with (first | (go_at_call 96; refine (AboK.go (by assumption) (by assumption)).mono ?_; rintro e u ⟨rfl, hb⟩; have hbu : Below wq.heap.size wq u := Below.trans (by assumption) (hb.mono (Below.size (by assumption))); obtain ⟨s0, s1, s2, s3, s4, s5⟩ := HD.out u hbu; clear hb))
                go_roundw
                case rel => exact ⟨k + 1, id, by omega, rfl, by go_num, HN, hbu⟩
                case measure => simp [intOf]; omega
              · have HN : Hid (MinQ (sayB G) I (d.take (k + 1)) M) := HSKP.out (fun _ _ => ⟨by omega, by omega⟩)
                clear HSKP HHIT HSR
                go_wp2_with (first | (go_at_call 96; refine (AboK.go (by assumption) (by assumption)).mono ?_; rintro e u ⟨rfl, hb⟩; have hbu : Below wq.heap.size wq u := Below.trans (by assumption) (hb.mono (Below.size (by assumption))); obtain ⟨s0, s1, s2, s3, s4, s5⟩ := HD.out u hbu; clear hb))
                go_roundw
                case rel => exact ⟨k + 1, M, by omega, rfl, by go_num, HN, hbu⟩
                case measure => simp [intOf]; omega
      · obtain rfl : k = d.length := by omega
        rw [HTE.out] at hM
        have ho2 := Lib.hid (ownsRow_below ho.out hbv (Nat.le_refl _))
        have hbw2 := HWL.out wr hbv
        by_cases hM0 : M < 0
        · have HA := Lib.hid (HEND.out R hQ.out.srt (hQ.out.past (hM.out.none_ hM0).2))
          have hLI := Lib.hid (ownsRow_lies ho2.out)
          have hBF := Lib.hid (hB2.trans (hbw2.mono hB2.size))
          clear HEND hQ hM HID HWL HL1 HL2 HSD
          go_wp2
          go_ret
          exact ⟨R, A', c', HA.out, by omega, rfl, hLI.out, hBF.out⟩
        · have hMx : (∃ r ∈ d, sayB G r = true ∧ r.id = M) ∧ I ≤ M := ⟨(hM.out.some_ (by omega)).1, (hM.out.some_ (by omega)).2.1⟩
          have hMb : M ≤ 1000000 := by obtain ⟨⟨r, hr, _, e⟩, _⟩ := hMx; have := (HID.out r hr).2; omega
          have hMI := hMx.2
          have HN := Lib.hid (hQ.out.next hM.out (by omega))
          have HNL := HN.out.len
          have hbase : w2.heap.size ≤ wr.heap.size := hbw2.size
          clear HEND hM hMx HID HWL HL1 HL2 HSD hQ hbv ho
          go_wp2_with (at_builtin; refine wpList_append1g (P := Tryz.prog) rfl (.tmp 84) (.tmp 86) 42 rfl w2.heap.size 3 (.int .i64 0) 1 8 Tryz.underlying42 info3 (by decide) (by decide) (.slice A' R.length c') R.length (ints R) rfl (ho2.out.alloc _) wr.heap.size #[.int .i64 M] 3 rfl (Bk.new _ _ _) rfl ?c1 ?c2 (by decide) ?c3 ?_)
          case c1 => rfl
          case c2 => omega
          case c3 => first | omega | (simp; omega)
          intro v4 w4 ho4 hg4
          have hgr : ∀ j, (Value.slice A' R.length c').ownBlock = some j → w2.heap.size ≤ j := fun j hj => (ho2.out.lt j hj).1
          have hb4 : Below w2.heap.size w2 w4 := (hbw2.alloc hbase _).grown hg4 (by simp; omega) hgr
          have hsn : ints R ++ (#[Value.int .i64 M] : Array Value).toList = ints (R ++ [M]) := by simp [ints]
          rw [hsn] at ho4
          obtain ⟨A4, c4, rfl, _, _⟩ := ownsSlice ho4
          have hll : (R ++ [M]).length = R.length + 1 := by simp
          have ho5 : Hid (w4.ownsRow w2.heap.size 3 1 (.slice A4 (R ++ [M]).length c4) (R ++ [M]).length (ints (R ++ [M]))) := by rw [hll]; exact Lib.hid ho4
          clear ho4 hg4 hgr hsn ho2 hbw2
          go_wp2
          go_roundw
          case rel => exact ⟨R ++ [M], A4, c4, M + 1, by rw [hll], by go_num, by omega, HN, ho5, HNL, hb4⟩
          case measure => simp [intOf]; omega
end Go.Proofs.YtkfeagokmcakgaaGreatDoor

namespace Go.Proofs.YtkfeagokmcakgaaGreatDoor
open Go.RowKit

theorem barB_eq (l : List Rul) (kind : Int) (x y : ByteArray) (back : Bool) (r : Rul) : barB l kind x y back r = (decide (r.kind = kind) && ((decide (r.x ∈ grps l x) && decide (r.y ∈ grps l y)) || (back && (decide (r.x ∈ grps l y) && decide (r.y ∈ grps l x))))) := by
  unfold barB inG
  cases decide (r.kind = kind) <;> cases back <;> cases decide (r.x ∈ grps l x) <;> cases decide (r.y ∈ grps l y) <;> cases decide (r.x ∈ grps l y) <;> cases decide (r.y ∈ grps l x) <;> rfl
set_option maxHeartbeats 6000000 in
set_option maxRecDepth 100000 in
theorem rforb_any (l : List Rul) (A : Option Addr) (c : Nat) (kind : Int) (x y : ByteArray) (back : Bool) (w : World) (hl : Lies w w.heap.size A (rulesC l)) (hm : l.length ≤ 1000) :
    Calls Tryz.prog 80 #[.slice A l.length c, .int .u8 kind, .string x, .string y, .bool back] w (fun e w' => e = .returned (.int .i64 (barL l kind x y back).2) ∧ Below w.heap.size w w') := by
  have HG := Lib.hid (fun s V hV => rgroups_any l A c s V (lies_on hl (hV : Below w.heap.size w V)) hm)
  have HLW : Hid (∀ V, Below w.heap.size w V → Lies V V.heap.size A (rulesC l)) := fun V hV => lies_on hl hV
  have hgx := grps_len l x
  have hgy := grps_len l y
  have HBB := Lib.hid (barB_eq l kind x y back)
  have HHIT : Hid (∀ k (hk : k < l.length), (∀ j (h : j < l.length), j < k → barB l kind x y back l[j] = false) → barB l kind x y back l[k] = true → (barL l kind x y back).2 = l[k].id) := fun k hk h0 h1 => by unfold barL; rw [find_hit hk h0 h1]
  have HNO : Hid ((∀ j (h : j < l.length), barB l kind x y back l[j] = false) → (barL l kind x y back).2 = 0) := fun h => by unfold barL; rw [find_none h]
  generalize barL l kind x y back = BL at *
  generalize barB l kind x y back = BB at *
  have hbw : Below w.heap.size w w := Below.refl _ _
  clear hl
  go_enter Tryz.func80, Tryz.ntmps80
  go_upto_region 2 with (first | (go_at_call 76; refine (HG.out x _ hbw).mono ?_; rintro e w1 ⟨A1, c1, rfl, l1, _, hb1⟩))
  have HL1 := Lib.hid l1
  clear l1
  go_upto_region 4 with (first | (go_at_call 76; refine (HG.out y _ hb1).mono ?_; rintro e w2 ⟨A2, c2, rfl, l2, _, hb2⟩))
  have HX : Hid (∀ s, HasK A1 (grps l x).length c1 s (decide (s ∈ grps l x)) w2) := fun s => ⟨fun V hV => rhas_any _ A1 c1 s V (lies_on (lies_on HL1.out hb2) hV) (by unfold maxLen; omega)⟩
  have HZ : Hid (∀ s, HasK A2 (grps l y).length c2 s (decide (s ∈ grps l y)) w2) := fun s => ⟨fun V hV => rhas_any _ A2 c2 s V (lies_on l2 hV) (by unfold maxLen; omega)⟩
  have hB2 : Below w.heap.size w w2 := hb1.trans (hb2.mono hb1.size)
  have hb22 : Below w2.heap.size w2 w2 := Below.refl _ _
  have HQ0 : Hid (∀ j (h : j < l.length), j < 0 → BB l[j] = false) := fun j h h0 => absurd h0 (by omega)
  clear HG HL1 l2 hb1 hb2 hbw hgx hgy
  generalize grps l x = gx at *
  generalize grps l y = gy at *
  go_loopw [13] (fun v wr => ∃ k : Nat, k ≤ l.length ∧ v = .int .i64 k ∧ Hid (∀ j (h : j < l.length), j < k → BB l[j] = false) ∧ Below w2.heap.size w2 wr) (fun v _ => l.length - (intOf v).toNat)
  case atStart => exact ⟨0, by omega, rfl, HQ0, hb22⟩
  case round =>
    obtain ⟨k, hk, rfl, hQ, hbv⟩ := hrel
    clear HQ0 hb22
    have hbz := hB2.trans (hbv.mono hB2.size)
    by_cases hkl : k < l.length
    · obtain ⟨ad, rfl, _, d0, d1, d2, d3, d4, d5⟩ := rule_at (HLW.out wr hbz) hkl
      have HD : Hid (∀ V, Below w2.heap.size w2 V → V.cell? (ad.add (k * 6)) = some (.int .i64 l[k].id) ∧ V.cell? ⟨(ad.add (k * 6)).block, (ad.add (k * 6)).off + 2, none⟩ = some (.int .u8 l[k].kind) ∧ V.cell? ⟨(ad.add (k * 6)).block, (ad.add (k * 6)).off + 3, none⟩ = some (.string l[k].x) ∧ V.cell? ⟨(ad.add (k * 6)).block, (ad.add (k * 6)).off + 4, none⟩ = some (.string l[k].y)) := fun V hV => by
        obtain ⟨ad2, e2, _, e0, e1, e3, e4, e5, e6⟩ := rule_at (HLW.out V (hB2.trans (hV.mono hB2.size))) hkl
        cases e2
        exact ⟨e0, e3, e4, e5⟩
      have HH := Lib.hid (HHIT.out k hkl hQ.out)
      have HQN : Hid (BB l[k] = false → ∀ j (h : j < l.length), j < k + 1 → BB l[j] = false) := fun hb j h hj => by
        by_cases e : j = k
        · subst e; exact hb
        · exact hQ.out j h (by omega)
      have HBR := Lib.hid (HBB.out l[k])
      have q1 := HX.out l[k].x
      have q2 := HZ.out l[k].y
      have q3 := HZ.out l[k].x
      have q4 := HX.out l[k].y
      have hbb : Below w2.heap.size w2 wr := hbv
      generalize BB l[k] = bb at *
      generalize l[k] = r at *
      obtain ⟨id, kn, kd, rx, ry, of⟩ := r
      dsimp only at *
      generalize decide (rx ∈ gx) = b1 at *
      generalize decide (ry ∈ gy) = b2 at *
      generalize decide (rx ∈ gy) = b3 at *
      generalize decide (ry ∈ gx) = b4 at *
      have HBR : Hid (bb = (decide (kd = kind) && ((b1 && b2) || (back && (b3 && b4))))) := HBR.out
      clear hQ HHIT HNO HBB HX HZ d1 d5
      by_cases hkk : kd = kind
      case neg =>
        have hk1 : (kd == kind) = false := by rw [beq_eq_false_iff_ne]; exact hkk
        cases back
        · cases b1
          · cases b3
            · have HN := Lib.hid (HQN.out (by rw [HBR.out]; simp [hkk]))
              clear HQN HH HBR hkk
              go_wp2_with (first | (go_at_call 77; refine (HasK.go (by assumption) (by assumption)).mono ?_; rintro e u ⟨rfl, hb⟩; have hbu : Below w2.heap.size w2 u := Below.trans (by assumption) (hb.mono (Below.size (by assumption))); obtain ⟨s0, s2, s3, s4⟩ := HD.out u hbu; clear hb))
              go_roundw
              case rel => exact ⟨k + 1, by omega, by go_num, HN, hbu⟩
              case measure => simp [intOf]; omega
            · cases b4
              · have HN := Lib.hid (HQN.out (by rw [HBR.out]; simp [hkk]))
                clear HQN HH HBR hkk
                go_wp2_with (first | (go_at_call 77; refine (HasK.go (by assumption) (by assumption)).mono ?_; rintro e u ⟨rfl, hb⟩; have hbu : Below w2.heap.size w2 u := Below.trans (by assumption) (hb.mono (Below.size (by assumption))); obtain ⟨s0, s2, s3, s4⟩ := HD.out u hbu; clear hb))
                go_roundw
                case rel => exact ⟨k + 1, by omega, by go_num, HN, hbu⟩
                case measure => simp [intOf]; omega
              · have HN := Lib.hid (HQN.out (by rw [HBR.out]; simp [hkk]))
                clear HQN HH HBR hkk
                go_wp2_with (first | (go_at_call 77; refine (HasK.go (by assumption) (by assumption)).mono ?_; rintro e u ⟨rfl, hb⟩; have hbu : Below w2.heap.size w2 u := Below.trans (by assumption) (hb.mono (Below.size (by assumption))); obtain ⟨s0, s2, s3, s4⟩ := HD.out u hbu; clear hb))
                go_roundw
                case rel => exact ⟨k + 1, by omega, by go_num, HN, hbu⟩
                case measure => simp [intOf]; omega
          · cases b2
            · cases b3
              · have HN := Lib.hid (HQN.out (by rw [HBR.out]; simp [hkk]))
                clear HQN HH HBR hkk
                go_wp2_with (first | (go_at_call 77; refine (HasK.go (by assumption) (by assumption)).mono ?_; rintro e u ⟨rfl, hb⟩; have hbu : Below w2.heap.size w2 u := Below.trans (by assumption) (hb.mono (Below.size (by assumption))); obtain ⟨s0, s2, s3, s4⟩ := HD.out u hbu; clear hb))
                go_roundw
                case rel => exact ⟨k + 1, by omega, by go_num, HN, hbu⟩
                case measure => simp [intOf]; omega
              · cases b4
                · have HN := Lib.hid (HQN.out (by rw [HBR.out]; simp [hkk]))
                  clear HQN HH HBR hkk
                  go_wp2_with (first | (go_at_call 77; refine (HasK.go (by assumption) (by assumption)).mono ?_; rintro e u ⟨rfl, hb⟩; have hbu : Below w2.heap.size w2 u := Below.trans (by assumption) (hb.mono (Below.size (by assumption))); obtain ⟨s0, s2, s3, s4⟩ := HD.out u hbu; clear hb))
                  go_roundw
                  case rel => exact ⟨k + 1, by omega, by go_num, HN, hbu⟩
                  case measure => simp [intOf]; omega
                · have HN := Lib.hid (HQN.out (by rw [HBR.out]; simp [hkk]))
                  clear HQN HH HBR hkk
                  go_wp2_with (first | (go_at_call 77; refine (HasK.go (by assumption) (by assumption)).mono ?_; rintro e u ⟨rfl, hb⟩; have hbu : Below w2.heap.size w2 u := Below.trans (by assumption) (hb.mono (Below.size (by assumption))); obtain ⟨s0, s2, s3, s4⟩ := HD.out u hbu; clear hb))
                  go_roundw
                  case rel => exact ⟨k + 1, by omega, by go_num, HN, hbu⟩
                  case measure => simp [intOf]; omega
            · cases b3
              · have HN := Lib.hid (HQN.out (by rw [HBR.out]; simp [hkk]))
                clear HQN HH HBR hkk
                go_wp2_with (first | (go_at_call 77; refine (HasK.go (by assumption) (by assumption)).mono ?_; rintro e u ⟨rfl, hb⟩; have hbu : Below w2.heap.size w2 u := Below.trans (by assumption) (hb.mono (Below.size (by assumption))); obtain ⟨s0, s2, s3, s4⟩ := HD.out u hbu; clear hb))
                go_roundw
                case rel => exact ⟨k + 1, by omega, by go_num, HN, hbu⟩
                case measure => simp [intOf]; omega
              · cases b4
                · have HN := Lib.hid (HQN.out (by rw [HBR.out]; simp [hkk]))
                  clear HQN HH HBR hkk
                  go_wp2_with (first | (go_at_call 77; refine (HasK.go (by assumption) (by assumption)).mono ?_; rintro e u ⟨rfl, hb⟩; have hbu : Below w2.heap.size w2 u := Below.trans (by assumption) (hb.mono (Below.size (by assumption))); obtain ⟨s0, s2, s3, s4⟩ := HD.out u hbu; clear hb))
                  go_roundw
                  case rel => exact ⟨k + 1, by omega, by go_num, HN, hbu⟩
                  case measure => simp [intOf]; omega
                · have HN := Lib.hid (HQN.out (by rw [HBR.out]; simp [hkk]))
                  clear HQN HH HBR hkk
                  go_wp2_with (first | (go_at_call 77; refine (HasK.go (by assumption) (by assumption)).mono ?_; rintro e u ⟨rfl, hb⟩; have hbu : Below w2.heap.size w2 u := Below.trans (by assumption) (hb.mono (Below.size (by assumption))); obtain ⟨s0, s2, s3, s4⟩ := HD.out u hbu; clear hb))
                  go_roundw
                  case rel => exact ⟨k + 1, by omega, by go_num, HN, hbu⟩
                  case measure => simp [intOf]; omega
        · cases b1
          · cases b3
            · have HN := Lib.hid (HQN.out (by rw [HBR.out]; simp [hkk]))
              clear HQN HH HBR hkk
              go_wp2_with (first | (go_at_call 77; refine (HasK.go (by assumption) (by assumption)).mono ?_; rintro e u ⟨rfl, hb⟩; have hbu : Below w2.heap.size w2 u := Below.trans (by assumption) (hb.mono (Below.size (by assumption))); obtain ⟨s0, s2, s3, s4⟩ := HD.out u hbu; clear hb))
              go_roundw
              case rel => exact ⟨k + 1, by omega, by go_num, HN, hbu⟩
              case measure => simp [intOf]; omega
            · cases b4
              · have HN := Lib.hid (HQN.out (by rw [HBR.out]; simp [hkk]))
                clear HQN HH HBR hkk
                go_wp2_with (first | (go_at_call 77; refine (HasK.go (by assumption) (by assumption)).mono ?_; rintro e u ⟨rfl, hb⟩; have hbu : Below w2.heap.size w2 u := Below.trans (by assumption) (hb.mono (Below.size (by assumption))); obtain ⟨s0, s2, s3, s4⟩ := HD.out u hbu; clear hb))
                go_roundw
                case rel => exact ⟨k + 1, by omega, by go_num, HN, hbu⟩
                case measure => simp [intOf]; omega
              · have HN := Lib.hid (HQN.out (by rw [HBR.out]; simp [hkk]))
                clear HQN HH HBR hkk
                go_wp2_with (first | (go_at_call 77; refine (HasK.go (by assumption) (by assumption)).mono ?_; rintro e u ⟨rfl, hb⟩; have hbu : Below w2.heap.size w2 u := Below.trans (by assumption) (hb.mono (Below.size (by assumption))); obtain ⟨s0, s2, s3, s4⟩ := HD.out u hbu; clear hb))
                go_roundw
                case rel => exact ⟨k + 1, by omega, by go_num, HN, hbu⟩
                case measure => simp [intOf]; omega
          · cases b2
            · cases b3
              · have HN := Lib.hid (HQN.out (by rw [HBR.out]; simp [hkk]))
                clear HQN HH HBR hkk
                go_wp2_with (first | (go_at_call 77; refine (HasK.go (by assumption) (by assumption)).mono ?_; rintro e u ⟨rfl, hb⟩; have hbu : Below w2.heap.size w2 u := Below.trans (by assumption) (hb.mono (Below.size (by assumption))); obtain ⟨s0, s2, s3, s4⟩ := HD.out u hbu; clear hb))
                go_roundw
                case rel => exact ⟨k + 1, by omega, by go_num, HN, hbu⟩
                case measure => simp [intOf]; omega
              · cases b4
                · have HN := Lib.hid (HQN.out (by rw [HBR.out]; simp [hkk]))
                  clear HQN HH HBR hkk
                  go_wp2_with (first | (go_at_call 77; refine (HasK.go (by assumption) (by assumption)).mono ?_; rintro e u ⟨rfl, hb⟩; have hbu : Below w2.heap.size w2 u := Below.trans (by assumption) (hb.mono (Below.size (by assumption))); obtain ⟨s0, s2, s3, s4⟩ := HD.out u hbu; clear hb))
                  go_roundw
                  case rel => exact ⟨k + 1, by omega, by go_num, HN, hbu⟩
                  case measure => simp [intOf]; omega
                · have HN := Lib.hid (HQN.out (by rw [HBR.out]; simp [hkk]))
                  clear HQN HH HBR hkk
                  go_wp2_with (first | (go_at_call 77; refine (HasK.go (by assumption) (by assumption)).mono ?_; rintro e u ⟨rfl, hb⟩; have hbu : Below w2.heap.size w2 u := Below.trans (by assumption) (hb.mono (Below.size (by assumption))); obtain ⟨s0, s2, s3, s4⟩ := HD.out u hbu; clear hb))
                  go_roundw
                  case rel => exact ⟨k + 1, by omega, by go_num, HN, hbu⟩
                  case measure => simp [intOf]; omega
            · cases b3
              · have HN := Lib.hid (HQN.out (by rw [HBR.out]; simp [hkk]))
                clear HQN HH HBR hkk
                go_wp2_with (first | (go_at_call 77; refine (HasK.go (by assumption) (by assumption)).mono ?_; rintro e u ⟨rfl, hb⟩; have hbu : Below w2.heap.size w2 u := Below.trans (by assumption) (hb.mono (Below.size (by assumption))); obtain ⟨s0, s2, s3, s4⟩ := HD.out u hbu; clear hb))
                go_roundw
                case rel => exact ⟨k + 1, by omega, by go_num, HN, hbu⟩
                case measure => simp [intOf]; omega
              · cases b4
                · have HN := Lib.hid (HQN.out (by rw [HBR.out]; simp [hkk]))
                  clear HQN HH HBR hkk
                  go_wp2_with (first | (go_at_call 77; refine (HasK.go (by assumption) (by assumption)).mono ?_; rintro e u ⟨rfl, hb⟩; have hbu : Below w2.heap.size w2 u := Below.trans (by assumption) (hb.mono (Below.size (by assumption))); obtain ⟨s0, s2, s3, s4⟩ := HD.out u hbu; clear hb))
                  go_roundw
                  case rel => exact ⟨k + 1, by omega, by go_num, HN, hbu⟩
                  case measure => simp [intOf]; omega
                · have HN := Lib.hid (HQN.out (by rw [HBR.out]; simp [hkk]))
                  clear HQN HH HBR hkk
                  go_wp2_with (first | (go_at_call 77; refine (HasK.go (by assumption) (by assumption)).mono ?_; rintro e u ⟨rfl, hb⟩; have hbu : Below w2.heap.size w2 u := Below.trans (by assumption) (hb.mono (Below.size (by assumption))); obtain ⟨s0, s2, s3, s4⟩ := HD.out u hbu; clear hb))
                  go_roundw
                  case rel => exact ⟨k + 1, by omega, by go_num, HN, hbu⟩
                  case measure => simp [intOf]; omega
      have hk1 : (kd == kind) = true := by rw [beq_iff_eq]; exact hkk
      cases back
      · cases b1
        · cases b3
          · have HN := Lib.hid (HQN.out (by rw [HBR.out]; simp [hkk]))
            clear HQN HH HBR hkk
            go_wp2_with (first | (go_at_call 77; refine (HasK.go (by assumption) (by assumption)).mono ?_; rintro e u ⟨rfl, hb⟩; have hbu : Below w2.heap.size w2 u := Below.trans (by assumption) (hb.mono (Below.size (by assumption))); obtain ⟨s0, s2, s3, s4⟩ := HD.out u hbu; clear hb))
            go_roundw
            case rel => exact ⟨k + 1, by omega, by go_num, HN, hbu⟩
            case measure => simp [intOf]; omega
          · cases b4
            · have HN := Lib.hid (HQN.out (by rw [HBR.out]; simp [hkk]))
              clear HQN HH HBR hkk
              go_wp2_with (first | (go_at_call 77; refine (HasK.go (by assumption) (by assumption)).mono ?_; rintro e u ⟨rfl, hb⟩; have hbu : Below w2.heap.size w2 u := Below.trans (by assumption) (hb.mono (Below.size (by assumption))); obtain ⟨s0, s2, s3, s4⟩ := HD.out u hbu; clear hb))
              go_roundw
              case rel => exact ⟨k + 1, by omega, by go_num, HN, hbu⟩
              case measure => simp [intOf]; omega
            · have HN := Lib.hid (HQN.out (by rw [HBR.out]; simp [hkk]))
              clear HQN HH HBR hkk
              go_wp2_with (first | (go_at_call 77; refine (HasK.go (by assumption) (by assumption)).mono ?_; rintro e u ⟨rfl, hb⟩; have hbu : Below w2.heap.size w2 u := Below.trans (by assumption) (hb.mono (Below.size (by assumption))); obtain ⟨s0, s2, s3, s4⟩ := HD.out u hbu; clear hb))
              go_roundw
              case rel => exact ⟨k + 1, by omega, by go_num, HN, hbu⟩
              case measure => simp [intOf]; omega
        · cases b2
          · cases b3
            · have HN := Lib.hid (HQN.out (by rw [HBR.out]; simp [hkk]))
              clear HQN HH HBR hkk
              go_wp2_with (first | (go_at_call 77; refine (HasK.go (by assumption) (by assumption)).mono ?_; rintro e u ⟨rfl, hb⟩; have hbu : Below w2.heap.size w2 u := Below.trans (by assumption) (hb.mono (Below.size (by assumption))); obtain ⟨s0, s2, s3, s4⟩ := HD.out u hbu; clear hb))
              go_roundw
              case rel => exact ⟨k + 1, by omega, by go_num, HN, hbu⟩
              case measure => simp [intOf]; omega
            · cases b4
              · have HN := Lib.hid (HQN.out (by rw [HBR.out]; simp [hkk]))
                clear HQN HH HBR hkk
                go_wp2_with (first | (go_at_call 77; refine (HasK.go (by assumption) (by assumption)).mono ?_; rintro e u ⟨rfl, hb⟩; have hbu : Below w2.heap.size w2 u := Below.trans (by assumption) (hb.mono (Below.size (by assumption))); obtain ⟨s0, s2, s3, s4⟩ := HD.out u hbu; clear hb))
                go_roundw
                case rel => exact ⟨k + 1, by omega, by go_num, HN, hbu⟩
                case measure => simp [intOf]; omega
              · have HN := Lib.hid (HQN.out (by rw [HBR.out]; simp [hkk]))
                clear HQN HH HBR hkk
                go_wp2_with (first | (go_at_call 77; refine (HasK.go (by assumption) (by assumption)).mono ?_; rintro e u ⟨rfl, hb⟩; have hbu : Below w2.heap.size w2 u := Below.trans (by assumption) (hb.mono (Below.size (by assumption))); obtain ⟨s0, s2, s3, s4⟩ := HD.out u hbu; clear hb))
                go_roundw
                case rel => exact ⟨k + 1, by omega, by go_num, HN, hbu⟩
                case measure => simp [intOf]; omega
          · cases b3
            · have HR := Lib.hid (HH.out (by rw [HBR.out]; simp [hkk]))
              clear HQN HH HBR hkk
              go_wp2_with (first | (go_at_call 77; refine (HasK.go (by assumption) (by assumption)).mono ?_; rintro e u ⟨rfl, hb⟩; have hbu : Below w2.heap.size w2 u := Below.trans (by assumption) (hb.mono (Below.size (by assumption))); obtain ⟨s0, s2, s3, s4⟩ := HD.out u hbu; clear hb))
              go_ret
              exact ⟨by rw [HR.out]; rfl, hB2.trans (hbu.mono hB2.size)⟩
            · cases b4
              · have HR := Lib.hid (HH.out (by rw [HBR.out]; simp [hkk]))
                clear HQN HH HBR hkk
                go_wp2_with (first | (go_at_call 77; refine (HasK.go (by assumption) (by assumption)).mono ?_; rintro e u ⟨rfl, hb⟩; have hbu : Below w2.heap.size w2 u := Below.trans (by assumption) (hb.mono (Below.size (by assumption))); obtain ⟨s0, s2, s3, s4⟩ := HD.out u hbu; clear hb))
                go_ret
                exact ⟨by rw [HR.out]; rfl, hB2.trans (hbu.mono hB2.size)⟩
              · have HR := Lib.hid (HH.out (by rw [HBR.out]; simp [hkk]))
                clear HQN HH HBR hkk
                go_wp2_with (first | (go_at_call 77; refine (HasK.go (by assumption) (by assumption)).mono ?_; rintro e u ⟨rfl, hb⟩; have hbu : Below w2.heap.size w2 u := Below.trans (by assumption) (hb.mono (Below.size (by assumption))); obtain ⟨s0, s2, s3, s4⟩ := HD.out u hbu; clear hb))
                go_ret
                exact ⟨by rw [HR.out]; rfl, hB2.trans (hbu.mono hB2.size)⟩
      · cases b1
        · cases b3
          · have HN := Lib.hid (HQN.out (by rw [HBR.out]; simp [hkk]))
            clear HQN HH HBR hkk
            go_wp2_with (first | (go_at_call 77; refine (HasK.go (by assumption) (by assumption)).mono ?_; rintro e u ⟨rfl, hb⟩; have hbu : Below w2.heap.size w2 u := Below.trans (by assumption) (hb.mono (Below.size (by assumption))); obtain ⟨s0, s2, s3, s4⟩ := HD.out u hbu; clear hb))
            go_roundw
            case rel => exact ⟨k + 1, by omega, by go_num, HN, hbu⟩
            case measure => simp [intOf]; omega
          · cases b4
            · have HN := Lib.hid (HQN.out (by rw [HBR.out]; simp [hkk]))
              clear HQN HH HBR hkk
              go_wp2_with (first | (go_at_call 77; refine (HasK.go (by assumption) (by assumption)).mono ?_; rintro e u ⟨rfl, hb⟩; have hbu : Below w2.heap.size w2 u := Below.trans (by assumption) (hb.mono (Below.size (by assumption))); obtain ⟨s0, s2, s3, s4⟩ := HD.out u hbu; clear hb))
              go_roundw
              case rel => exact ⟨k + 1, by omega, by go_num, HN, hbu⟩
              case measure => simp [intOf]; omega
            · have HR := Lib.hid (HH.out (by rw [HBR.out]; simp [hkk]))
              clear HQN HH HBR hkk
              go_wp2_with (first | (go_at_call 77; refine (HasK.go (by assumption) (by assumption)).mono ?_; rintro e u ⟨rfl, hb⟩; have hbu : Below w2.heap.size w2 u := Below.trans (by assumption) (hb.mono (Below.size (by assumption))); obtain ⟨s0, s2, s3, s4⟩ := HD.out u hbu; clear hb))
              go_ret
              exact ⟨by rw [HR.out]; rfl, hB2.trans (hbu.mono hB2.size)⟩
        · cases b2
          · cases b3
            · have HN := Lib.hid (HQN.out (by rw [HBR.out]; simp [hkk]))
              clear HQN HH HBR hkk
              go_wp2_with (first | (go_at_call 77; refine (HasK.go (by assumption) (by assumption)).mono ?_; rintro e u ⟨rfl, hb⟩; have hbu : Below w2.heap.size w2 u := Below.trans (by assumption) (hb.mono (Below.size (by assumption))); obtain ⟨s0, s2, s3, s4⟩ := HD.out u hbu; clear hb))
              go_roundw
              case rel => exact ⟨k + 1, by omega, by go_num, HN, hbu⟩
              case measure => simp [intOf]; omega
            · cases b4
              · have HN := Lib.hid (HQN.out (by rw [HBR.out]; simp [hkk]))
                clear HQN HH HBR hkk
                go_wp2_with (first | (go_at_call 77; refine (HasK.go (by assumption) (by assumption)).mono ?_; rintro e u ⟨rfl, hb⟩; have hbu : Below w2.heap.size w2 u := Below.trans (by assumption) (hb.mono (Below.size (by assumption))); obtain ⟨s0, s2, s3, s4⟩ := HD.out u hbu; clear hb))
                go_roundw
                case rel => exact ⟨k + 1, by omega, by go_num, HN, hbu⟩
                case measure => simp [intOf]; omega
              · have HR := Lib.hid (HH.out (by rw [HBR.out]; simp [hkk]))
                clear HQN HH HBR hkk
                go_wp2_with (first | (go_at_call 77; refine (HasK.go (by assumption) (by assumption)).mono ?_; rintro e u ⟨rfl, hb⟩; have hbu : Below w2.heap.size w2 u := Below.trans (by assumption) (hb.mono (Below.size (by assumption))); obtain ⟨s0, s2, s3, s4⟩ := HD.out u hbu; clear hb))
                go_ret
                exact ⟨by rw [HR.out]; rfl, hB2.trans (hbu.mono hB2.size)⟩
          · cases b3
            · have HR := Lib.hid (HH.out (by rw [HBR.out]; simp [hkk]))
              clear HQN HH HBR hkk
              go_wp2_with (first | (go_at_call 77; refine (HasK.go (by assumption) (by assumption)).mono ?_; rintro e u ⟨rfl, hb⟩; have hbu : Below w2.heap.size w2 u := Below.trans (by assumption) (hb.mono (Below.size (by assumption))); obtain ⟨s0, s2, s3, s4⟩ := HD.out u hbu; clear hb))
              go_ret
              exact ⟨by rw [HR.out]; rfl, hB2.trans (hbu.mono hB2.size)⟩
            · cases b4
              · have HR := Lib.hid (HH.out (by rw [HBR.out]; simp [hkk]))
                clear HQN HH HBR hkk
                go_wp2_with (first | (go_at_call 77; refine (HasK.go (by assumption) (by assumption)).mono ?_; rintro e u ⟨rfl, hb⟩; have hbu : Below w2.heap.size w2 u := Below.trans (by assumption) (hb.mono (Below.size (by assumption))); obtain ⟨s0, s2, s3, s4⟩ := HD.out u hbu; clear hb))
                go_ret
                exact ⟨by rw [HR.out]; rfl, hB2.trans (hbu.mono hB2.size)⟩
              · have HR := Lib.hid (HH.out (by rw [HBR.out]; simp [hkk]))
                clear HQN HH HBR hkk
                go_wp2_with (first | (go_at_call 77; refine (HasK.go (by assumption) (by assumption)).mono ?_; rintro e u ⟨rfl, hb⟩; have hbu : Below w2.heap.size w2 u := Below.trans (by assumption) (hb.mono (Below.size (by assumption))); obtain ⟨s0, s2, s3, s4⟩ := HD.out u hbu; clear hb))
                go_ret
                exact ⟨by rw [HR.out]; rfl, hB2.trans (hbu.mono hB2.size)⟩
    · obtain rfl : k = l.length := by omega
      have HR := Lib.hid (HNO.out (fun j h => hQ.out j h h))
      clear HX HZ HHIT HNO HBB hQ HLW
      go_wp2
      go_ret
      exact ⟨by rw [HR.out]; rfl, hbz⟩
theorem barL_fst {l : List Rul} {known kind : Int} {x y : ByteArray} {back : Bool} : (barL (cntL l known) kind x y back).1 = decide ((barL (cntL l known) kind x y back).2 = 0) := by
  unfold barL
  cases h : (cntL l known).find? (barB (cntL l known) kind x y back) with
  | none => rfl
  | some r =>
    have := (cnt_ids r (List.mem_of_find?_eq_some h)).1
    have h2 : ¬ r.id = 0 := by omega
    show false = decide (r.id = 0)
    rw [decide_eq_false h2]
set_option maxHeartbeats 2000000 in
set_option maxRecDepth 100000 in
theorem rmayBeside_any (l : List Rul) (A : Option Addr) (c : Nat) (known : Int) (x y : ByteArray) (w : World) (hl : Lies w w.heap.size A (rulesC l)) (hok : RulOK l) (hm : l.length ≤ 1000) :
    Calls Tryz.prog 30 #[.agg #[.slice A l.length c], .int .i64 known, .string x, .string y] w (BarE (barL (cntL l known) 3 x y true) w) := by
  have HC : Hid (∀ W, Below w.heap.size w W → Calls Tryz.prog 39 #[.agg #[.slice A l.length c], .int .i64 known] W (SlE (cntL l known) W)) := fun W hb => rcounting_any l A c known W ((hl.below hb (Nat.le_refl _)).more hb.size) hok hm
  have HS := Lib.hid (fun A' c' W hL => rforb_any (cntL l known) A' c' 3 x y true W hL (Nat.le_trans (cnt_len l known) hm))
  have HF := Lib.hid (barL_fst (l := l) (known := known) (kind := 3) (x := x) (y := y) (back := true))
  generalize barL (cntL l known) 3 x y true = P at *
  obtain ⟨p, i⟩ := P
  dsimp only at *
  clear hl hok
  go_enter Tryz.func30, Tryz.ntmps30
  by_cases hi : i = 0
  · have hi1 : (i == 0) = true := by rw [beq_iff_eq]; exact hi
    have HP : Hid (p = true) := by show _ = _; rw [HF.out, decide_eq_true hi]
    clear hi HF
    go_wp2_with (first | (go_at_call 39; refine (HC.out _ (by repeat (first | with_reducible exact Below.refl _ _ | with_reducible assumption | with_reducible refine Below.drew ?_ | with_reducible refine below_drewN ?_ _ | (with_reducible refine Below.alloc ?_ ?_ _; rotate_left; (try simp) <;> omega) | (with_reducible refine Below.setCell ?_ ?_ _; rotate_left; (try simp) <;> omega)))).mono ?_; rintro e w1 ⟨A1, c1, rfl, hl1, _, hb1⟩; have hB1 : Below w.heap.size w w1 := Below.trans (by repeat (first | with_reducible exact Below.refl _ _ | with_reducible assumption | with_reducible refine Below.drew ?_ | with_reducible refine below_drewN ?_ _ | (with_reducible refine Below.alloc ?_ ?_ _; rotate_left; (try simp) <;> omega) | (with_reducible refine Below.setCell ?_ ?_ _; rotate_left; (try simp) <;> omega))) (hb1.mono (by simp))) | (go_at_call 80; refine (HS.out _ _ _ hl1).mono ?_; rintro e w2 ⟨rfl, hb2⟩))
    go_ret2
    exact ⟨by rw [HP.out]; rfl, hB1.trans (hb2.mono hB1.size)⟩
  · have hi1 : (i == 0) = false := by rw [beq_eq_false_iff_ne]; exact hi
    have HP : Hid (p = false) := by show _ = _; rw [HF.out, decide_eq_false hi]
    clear hi HF
    go_wp2_with (first | (go_at_call 39; refine (HC.out _ (by repeat (first | with_reducible exact Below.refl _ _ | with_reducible assumption | with_reducible refine Below.drew ?_ | with_reducible refine below_drewN ?_ _ | (with_reducible refine Below.alloc ?_ ?_ _; rotate_left; (try simp) <;> omega) | (with_reducible refine Below.setCell ?_ ?_ _; rotate_left; (try simp) <;> omega)))).mono ?_; rintro e w1 ⟨A1, c1, rfl, hl1, _, hb1⟩; have hB1 : Below w.heap.size w w1 := Below.trans (by repeat (first | with_reducible exact Below.refl _ _ | with_reducible assumption | with_reducible refine Below.drew ?_ | with_reducible refine below_drewN ?_ _ | (with_reducible refine Below.alloc ?_ ?_ _; rotate_left; (try simp) <;> omega) | (with_reducible refine Below.setCell ?_ ?_ _; rotate_left; (try simp) <;> omega))) (hb1.mono (by simp))) | (go_at_call 80; refine (HS.out _ _ _ hl1).mono ?_; rintro e w2 ⟨rfl, hb2⟩))
    go_ret2
    exact ⟨by rw [HP.out]; rfl, hB1.trans (hb2.mono hB1.size)⟩
set_option maxHeartbeats 2000000 in
set_option maxRecDepth 100000 in
theorem rmayOver_any (l : List Rul) (A : Option Addr) (c : Nat) (known : Int) (x y : ByteArray) (w : World) (hl : Lies w w.heap.size A (rulesC l)) (hok : RulOK l) (hm : l.length ≤ 1000) :
    Calls Tryz.prog 32 #[.agg #[.slice A l.length c], .int .i64 known, .string x, .string y] w (BarE (barL (cntL l known) 4 x y false) w) := by
  have HC : Hid (∀ W, Below w.heap.size w W → Calls Tryz.prog 39 #[.agg #[.slice A l.length c], .int .i64 known] W (SlE (cntL l known) W)) := fun W hb => rcounting_any l A c known W ((hl.below hb (Nat.le_refl _)).more hb.size) hok hm
  have HS := Lib.hid (fun A' c' W hL => rforb_any (cntL l known) A' c' 4 x y false W hL (Nat.le_trans (cnt_len l known) hm))
  have HF := Lib.hid (barL_fst (l := l) (known := known) (kind := 4) (x := x) (y := y) (back := false))
  generalize barL (cntL l known) 4 x y false = P at *
  obtain ⟨p, i⟩ := P
  dsimp only at *
  clear hl hok
  go_enter Tryz.func32, Tryz.ntmps32
  by_cases hi : i = 0
  · have hi1 : (i == 0) = true := by rw [beq_iff_eq]; exact hi
    have HP : Hid (p = true) := by show _ = _; rw [HF.out, decide_eq_true hi]
    clear hi HF
    go_wp2_with (first | (go_at_call 39; refine (HC.out _ (by repeat (first | with_reducible exact Below.refl _ _ | with_reducible assumption | with_reducible refine Below.drew ?_ | with_reducible refine below_drewN ?_ _ | (with_reducible refine Below.alloc ?_ ?_ _; rotate_left; (try simp) <;> omega) | (with_reducible refine Below.setCell ?_ ?_ _; rotate_left; (try simp) <;> omega)))).mono ?_; rintro e w1 ⟨A1, c1, rfl, hl1, _, hb1⟩; have hB1 : Below w.heap.size w w1 := Below.trans (by repeat (first | with_reducible exact Below.refl _ _ | with_reducible assumption | with_reducible refine Below.drew ?_ | with_reducible refine below_drewN ?_ _ | (with_reducible refine Below.alloc ?_ ?_ _; rotate_left; (try simp) <;> omega) | (with_reducible refine Below.setCell ?_ ?_ _; rotate_left; (try simp) <;> omega))) (hb1.mono (by simp))) | (go_at_call 80; refine (HS.out _ _ _ hl1).mono ?_; rintro e w2 ⟨rfl, hb2⟩))
    go_ret2
    exact ⟨by rw [HP.out]; rfl, hB1.trans (hb2.mono hB1.size)⟩
  · have hi1 : (i == 0) = false := by rw [beq_eq_false_iff_ne]; exact hi
    have HP : Hid (p = false) := by show _ = _; rw [HF.out, decide_eq_false hi]
    clear hi HF
    go_wp2_with (first | (go_at_call 39; refine (HC.out _ (by repeat (first | with_reducible exact Below.refl _ _ | with_reducible assumption | with_reducible refine Below.drew ?_ | with_reducible refine below_drewN ?_ _ | (with_reducible refine Below.alloc ?_ ?_ _; rotate_left; (try simp) <;> omega) | (with_reducible refine Below.setCell ?_ ?_ _; rotate_left; (try simp) <;> omega)))).mono ?_; rintro e w1 ⟨A1, c1, rfl, hl1, _, hb1⟩; have hB1 : Below w.heap.size w w1 := Below.trans (by repeat (first | with_reducible exact Below.refl _ _ | with_reducible assumption | with_reducible refine Below.drew ?_ | with_reducible refine below_drewN ?_ _ | (with_reducible refine Below.alloc ?_ ?_ _; rotate_left; (try simp) <;> omega) | (with_reducible refine Below.setCell ?_ ?_ _; rotate_left; (try simp) <;> omega))) (hb1.mono (by simp))) | (go_at_call 80; refine (HS.out _ _ _ hl1).mono ?_; rintro e w2 ⟨rfl, hb2⟩))
    go_ret2
    exact ⟨by rw [HP.out]; rfl, hB1.trans (hb2.mono hB1.size)⟩
end Go.Proofs.YtkfeagokmcakgaaGreatDoor
