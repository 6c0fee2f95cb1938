/- The reference's sorted, Groups (fns 91, 42). Printed by gen_n6.py. -/
import Derived.Sort.Walk0
import Derived.Test.YtkfeagokmcakgaaGreatDoorG02
import Derived.Test.YtkfeagokmcakgaaGreatDoorG16
import Derived.Test.YtkfeagokmcakgaaGreatDoorG27

set_option linter.unusedVariables false
set_option linter.unusedSimpArgs false

namespace Go.Proofs.YtkfeagokmcakgaaGreatDoor
open Go.RowKit

theorem toL (s : ByteArray) : s.toList = byB s := by rw [ByteArray.toList_eq]; rfl
theorem lt_eq (s t : ByteArray) : Op.bytesLess s.toList t.toList = decide (byB s < byB t) := by rw [toL, toL]; exact Go.Proofs.bytesLess_eq _ _
/-- out holds the names of M once each, in ascending order -/
structure SrtS (out M : List ByteArray) : Prop where
  srt : out.Pairwise fun a b => byB a ≤ byB b
  nd : out.Nodup
  mem : ∀ z, z ∈ out ↔ z ∈ M
theorem SrtS.nil : SrtS [] [] := ⟨List.Pairwise.nil, List.nodup_nil, fun _ => Iff.rfl⟩
theorem SrtS.skip {out M : List ByteArray} {s : ByteArray} (h : SrtS out M) (hs : s ∈ out) : SrtS out (M ++ [s]) := ⟨h.srt, h.nd, fun z => by
  rw [h.mem z, List.mem_append, List.mem_singleton]
  constructor
  · exact .inl
  · rintro (h1 | rfl)
    · exact h1
    · exact (h.mem _).1 hs⟩
theorem SrtS.ins {out M nx : List ByteArray} {s : ByteArray} (h : SrtS out M) (hs : s ∉ out) (h1 : nx.Pairwise fun a b => byB a ≤ byB b) (h2 : nx.Perm (s :: out)) : SrtS nx (M ++ [s]) :=
  ⟨h1, h2.nodup_iff.2 (List.nodup_cons.2 ⟨hs, h.nd⟩), fun z => by
    rw [h2.mem_iff, List.mem_cons, h.mem z, List.mem_append, List.mem_singleton]
    exact Or.comm⟩
theorem srtS_of {R M : List ByteArray} {p : ByteArray → Bool} (h : SrtS R M) (hm : ∀ s, s ∈ M ↔ (s.size ≤ maxLen ∧ p s = true)) : SrtOf R p := ⟨h.srt, h.nd, fun s => (h.mem s).trans (hm s)⟩
/-- where a name is being put among others -/
structure InsQ (s : ByteArray) (out : List ByteArray) (k : Nat) (nx : List ByteArray) (d : Bool) : Prop where
  no : d = false → nx = out.take k ∧ ∀ o ∈ out.take k, byB o ≤ byB s
  ys : d = true → (nx ++ out.drop k).Pairwise (fun a b => byB a ≤ byB b) ∧ (nx ++ out.drop k).Perm (s :: out)
theorem InsQ.start (s : ByteArray) (out : List ByteArray) : InsQ s out 0 [] false := ⟨fun _ => ⟨rfl, fun o ho => by simp at ho⟩, fun h => by cases h⟩
theorem InsQ.later {s : ByteArray} {out nx : List ByteArray} {k : Nat} (h : InsQ s out k nx false) (hk : k < out.length) (hlt : ¬ byB s < byB out[k]) : InsQ s out (k + 1) (nx ++ [out[k]]) false := by
  obtain ⟨rfl, h2⟩ := h.no rfl
  refine ⟨fun _ => ⟨List.take_append_getElem hk, fun o ho => ?_⟩, fun h => by cases h⟩
  rw [← List.take_append_getElem hk, List.mem_append, List.mem_singleton] at ho
  rcases ho with h1 | rfl
  · exact h2 o h1
  · exact List.not_lt.1 hlt
theorem InsQ.now {s : ByteArray} {out nx : List ByteArray} {k : Nat} (h : InsQ s out k nx false) (hsrt : out.Pairwise fun a b => byB a ≤ byB b) (hk : k < out.length) (hlt : byB s < byB out[k]) : InsQ s out (k + 1) ((nx ++ [s]) ++ [out[k]]) true := by
  obtain ⟨rfl, h2⟩ := h.no rfl
  have hd : ((out.take k ++ [s]) ++ [out[k]]) ++ out.drop (k + 1) = out.take k ++ (s :: out.drop k) := by
    rw [List.drop_eq_getElem_cons hk]; simp
  have hsp : (out.take k ++ out.drop k).Pairwise fun a b => byB a ≤ byB b := by rw [List.take_append_drop]; exact hsrt
  have hsk : ∀ o ∈ out.drop k, byB s ≤ byB o := fun o ho => by
    rw [List.drop_eq_getElem_cons hk] at ho
    rcases List.mem_cons.1 ho with rfl | h1
    · exact List.le_of_lt hlt
    · have := (List.pairwise_append.1 hsp).2.1
      rw [List.drop_eq_getElem_cons hk, List.pairwise_cons] at this
      exact List.le_trans (List.le_of_lt hlt) (this.1 o h1)
  refine ⟨fun h => (by cases h), fun _ => ?_⟩
  rw [hd]
  constructor
  · rw [List.pairwise_append]
    obtain ⟨p1, p2, p3⟩ := List.pairwise_append.1 hsp
    refine ⟨p1, List.pairwise_cons.2 ⟨hsk, p2⟩, fun a ha b hb => ?_⟩
    rcases List.mem_cons.1 hb with rfl | h1
    · exact h2 a ha
    · exact p3 a ha b h1
  · have := List.perm_middle (a := s) (l₁ := out.take k) (l₂ := out.drop k)
    rw [List.take_append_drop] at this
    exact this
theorem InsQ.done {s : ByteArray} {out nx : List ByteArray} {k : Nat} (h : InsQ s out k nx true) (hk : k < out.length) : InsQ s out (k + 1) (nx ++ [out[k]]) true := by
  refine ⟨fun h => (by cases h), fun _ => ?_⟩
  have := h.ys rfl
  rw [List.drop_eq_getElem_cons hk] at this
  simpa using this
theorem InsQ.endT {s : ByteArray} {out nx : List ByteArray} (h : InsQ s out out.length nx true) : nx.Pairwise (fun a b => byB a ≤ byB b) ∧ nx.Perm (s :: out) := by
  have := h.ys rfl
  rw [List.drop_length, List.append_nil] at this
  exact this
theorem InsQ.endF {s : ByteArray} {out nx : List ByteArray} (h : InsQ s out out.length nx false) (hsrt : out.Pairwise fun a b => byB a ≤ byB b) : (nx ++ [s]).Pairwise (fun a b => byB a ≤ byB b) ∧ (nx ++ [s]).Perm (s :: out) := by
  obtain ⟨rfl, h2⟩ := h.no rfl
  rw [List.take_length] at h2 ⊢
  refine ⟨?_, List.perm_append_singleton _ _⟩
  rw [List.pairwise_append]
  exact ⟨hsrt, by simp, fun a ha b hb => by simp at hb; subst hb; exact h2 a ha⟩
set_option maxHeartbeats 6000000 in
set_option maxRecDepth 100000 in
theorem rsorted_any (L : List ByteArray) (A : Option Addr) (c : Nat) (w : World) (hl : Lies w w.heap.size A (strsC L)) (hm : L.length ≤ 1001) :
    Calls Tryz.prog 91 #[.slice A L.length c] w (fun e w' => ∃ R A' c', SrtS R L ∧ R.length ≤ 10000 ∧ e = .returned (.slice A' R.length c') ∧ Lies w' w'.heap.size A' (strsC R) ∧ (R.length ≤ c' ∧ c' ≤ maxLen) ∧ Below w.heap.size w w') := by
  have HLW : Hid (∀ V, Below w.heap.size w V → Lies V V.heap.size A (strsC L)) := fun V hV => lies_on hl hV
  have HT0 : Hid (SrtS [] (L.take 0)) := SrtS.nil
  have HTE : Hid (L.take L.length = L) := List.take_length
  have hl0 : Hid (Lies w w.heap.size none (strsC [])) := fun h => absurd rfl h
  clear hl
  go_enter Tryz.func91, Tryz.ntmps91
  go_upto_region 3 with fail
  go_loopw [3, 4] (fun v y wr => ∃ (i : Nat) (out : List ByteArray) (A' : Option Addr) (c' : Nat), i ≤ L.length ∧ v = .slice A' out.length c' ∧ y = .int .i64 i ∧ Hid (SrtS out (L.take i)) ∧ Hid (Lies wr wr.heap.size A' (strsC out)) ∧ Hid (out.length ≤ c' ∧ c' ≤ maxLen) ∧ out.length ≤ i ∧ Below w.heap.size w wr) (fun _ y _ => L.length - (intOf y).toNat)
  case atStart => exact ⟨0, [], none, 0, by omega, rfl, rfl, HT0, hl0, ⟨Nat.le_refl _, Nat.zero_le _⟩, Nat.le_refl _, Below.refl _ _⟩
  case round =>
    obtain ⟨i, out, A1, c1, hi, rfl, rfl, hS, hL1, hc1, hoi, hbw⟩ := hrel
    clear HT0 hl0
    by_cases hlt : i < L.length
    · obtain ⟨ad, rfl, _, x0⟩ := str_at (HLW.out wr hbw) hlt
      have HX : Hid (∀ V, Below w.heap.size w V → V.cell? (ad.add i) = some (.string L[i])) := fun V hV => by
        obtain ⟨a2, e2, _, h2⟩ := str_at (HLW.out V hV) hlt
        cases e2
        exact h2
      have HSK : Hid (L[i] ∈ out → SrtS out (L.take (i + 1))) := fun h => by rw [← List.take_append_getElem hlt]; exact hS.out.skip h
      have HIN : Hid (∀ nx : List ByteArray, L[i] ∉ out → nx.Pairwise (fun a b => byB a ≤ byB b) → nx.Perm (L[i] :: out) → SrtS nx (L.take (i + 1))) := fun nx h h1 h2 => by rw [← List.take_append_getElem hlt]; exact hS.out.ins h h1 h2
      have HSR := Lib.hid hS.out.srt
      have HH := Lib.hid (rhas_any out A1 c1 L[i] wr hL1.out (by unfold maxLen; omega))
      generalize L[i] = s at *
      clear hS HLW HTE
      by_cases hs : s ∈ out
      · rw [decide_eq_true hs] at HH
        have HN := Lib.hid (HSK.out hs)
        clear HSK HIN hs
        go_wp2_with (first | (go_at_call 77; refine HH.out.mono ?_; rintro e u ⟨rfl, hb⟩))
        have hL2 := Lib.hid (lies_on hL1.out hb)
        have hbw2 : Below w.heap.size w u := hbw.trans (hb.mono hbw.size)
        clear hb hL1 hbw
        go_roundw
        case rel => exact ⟨i + 1, out, A1, c1, by omega, rfl, by go_num, HN, hL2, hc1, by omega, hbw2⟩
        case measure => simp [intOf]; omega
      rw [decide_eq_false hs] at HH
      have HIN := Lib.hid (fun nx h1 h2 => HIN.out nx hs h1 h2)
      go_upto_region 9 with (first | (go_at_call 77; refine HH.out.mono ?_; rintro e u ⟨rfl, hb⟩))
      have HLO : Hid (∀ V, Below u.heap.size u V → Lies V V.heap.size A1 (strsC out)) := fun V hV => lies_on (lies_on hL1.out hb) hV
      have hbu : Below w.heap.size w u := hbw.trans (hb.mono hbw.size)
      have HX2 : Hid (∀ V, Below u.heap.size u V → V.cell? (ad.add i) = some (.string s)) := fun V hV => HX.out V (hbu.trans (hV.mono hbu.size))
      have HI0 := Lib.hid (InsQ.start s out)
      have hbuu : Below u.heap.size u u := Below.refl _ _
      clear HSK hs hL1 hb hbw HX HH x0
      go_loopw [5, 6, 7] (fun v d z wr => ∃ (k : Nat) (nx : List ByteArray) (Ax : Option Addr) (cx : Nat) (db : Bool), k ≤ out.length ∧ v = .slice Ax nx.length cx ∧ d = .bool db ∧ z = .int .i64 k ∧ Hid (InsQ s out k nx db) ∧ Hid (wr.ownsRow u.heap.size 9 1 (.slice Ax nx.length cx) nx.length (strsC nx)) ∧ nx.length ≤ k + 1 ∧ Below u.heap.size u wr) (fun _ _ z _ => out.length - (intOf z).toNat)
      case atStart => exact ⟨0, [], none, 0, false, by omega, rfl, rfl, rfl, HI0, World.ownsRow_nil _ _ _ _, by simp, hbuu⟩
      case round =>
        obtain ⟨k, nx, Ax, cx, db, hk, rfl, rfl, rfl, hQ, ho, hnx, hbv⟩ := hrel
        clear HI0 hbuu
        have z0 := HX2.out wr hbv
        by_cases hkl : k < out.length
        · obtain ⟨ao, rfl, _, z1⟩ := str_at (HLO.out wr hbv) hkl
          have HZ : Hid (∀ V, Below u.heap.size u V → V.cell? (ad.add i) = some (.string s) ∧ V.cell? (ao.add k) = some (.string out[k])) := fun V hV => by
            obtain ⟨a2, e2, _, h2⟩ := str_at (HLO.out V hV) hkl
            cases e2
            exact ⟨HX2.out V hV, h2⟩
          have HQL := Lib.hid (fun (h : InsQ s out k nx false) h2 => h.later hkl h2)
          have HQN := Lib.hid (fun (h : InsQ s out k nx false) h2 => h.now HSR.out hkl h2)
          have HQD := Lib.hid (fun (h : InsQ s out k nx true) => h.done hkl)
          have hLT := lt_eq s out[k]
          generalize out[k] = o at *
          cases db
          · have hnk : nx.length ≤ k := by rw [(hQ.out.no rfl).1, List.length_take]; omega
            have HQL := Lib.hid (fun h2 => HQL.out hQ.out h2)
            have HQN := Lib.hid (fun h2 => HQN.out hQ.out h2)
            clear HQD hQ
            by_cases hc : byB s < byB o
            · have HN := Lib.hid (HQN.out hc)
              rw [decide_eq_true hc] at hLT
              clear HQL HQN hc
              go_upto_region 11 with fail
              refine wp_region_held_drew (S := fun V => V.cell? (ad.add i) = some (.string s) ∧ V.cell? (ao.add k) = some (.string o)) (by kernel_rfl) ?_ (fun hHeld => ?_)
              · exact HZ.out _ hbv.drew
              refine tk 0 26 ?_
              refine tk 1 27 ?_
              refine tk 2 28 ?_
              refine tk 3 29 ?_
              refine tk 4 30 ?_
              refine tk 5 31 ?_
              refine tk 6 32 ?_
              refine tk 7 33 ?_
              refine tk 8 34 ?_
              refine tk 9 35 ?_
              refine tk 10 36 ?_
              refine tk 11 37 ?_
              refine tk 12 38 ?_
              refine wpAnyH_done (by kernel_rfl) ?_ _
              have hbd : Below u.heap.size u wr.drew := hbv.drew
              have hod := Lib.hid (show wr.drew.ownsRow u.heap.size 9 1 (.slice Ax nx.length cx) nx.length (strsC nx) from ho.out)
              obtain ⟨y0, y1⟩ := HZ.out _ hbd
              clear ho hbv hHeld z0 z1
              generalize wr.drew = wd at *
              have hsz3 := hbd.size
              go_upto_region 13 with (at_builtin; refine wpList_append1g (P := Tryz.prog) rfl (.tmp 39) (.tmp 44) 34 rfl u.heap.size 9 (.string ByteArray.empty) 1 16 Tryz.underlying34 info9 (by decide) (by decide) (.slice Ax nx.length cx) nx.length (strsC nx) rfl (hod.out.alloc _) wd.heap.size #[.string s] 9 rfl (Bk.new _ _ _) rfl ?c1 ?c2 (by decide) ?c3 ?_)
              case c1 => rfl
              case c2 => omega
              case c3 => first | omega | (simp; omega)
              intro v3 w3 ho3 hg3
              have hgr3 : ∀ j, (Value.slice Ax nx.length cx).ownBlock = some j → u.heap.size ≤ j := fun j hj => (hod.out.lt j hj).1
              have hb3 : Below u.heap.size u w3 := (hbd.alloc hsz3 _).grown hg3 (by simp; omega) hgr3
              have hsn3 : strsC nx ++ (#[Value.string s] : Array Value).toList = strsC (nx ++ [s]) := by simp [strsC]
              rw [hsn3] at ho3
              obtain ⟨A3, c3, rfl, hca3, hcb3⟩ := ownsSlice ho3
              have hO3 := Lib.hid ho3
              obtain ⟨y03, y13⟩ := HZ.out _ hb3
              clear ho3 hg3 hgr3 hsn3 hod hbd
              go_upto_region 14 with fail
              have hsz4 := hb3.size
              go_wp2_with (at_builtin; refine wpList_append1g (P := Tryz.prog) rfl (.tmp 46) (.tmp 51) 34 rfl u.heap.size 9 (.string ByteArray.empty) 1 16 Tryz.underlying34 info9 (by decide) (by decide) (.slice A3 (nx.length + 1) c3) (nx.length + 1) (strsC (nx ++ [s])) rfl (hO3.out.alloc _) w3.heap.size #[.string o] 9 rfl (Bk.new _ _ _) rfl ?c1 ?c2 (by decide) ?c3 ?_)
              case c1 => rfl
              case c2 => omega
              case c3 => first | omega | (simp; omega)
              intro v4 w4 ho4 hg4
              have hgr4 : ∀ j, (Value.slice A3 (nx.length + 1) c3).ownBlock = some j → u.heap.size ≤ j := fun j hj => (hO3.out.lt j hj).1
              have hb4 : Below u.heap.size u w4 := (hb3.alloc hsz4 _).grown hg4 (by simp; omega) hgr4
              have hsn4 : strsC (nx ++ [s]) ++ (#[Value.string o] : Array Value).toList = strsC ((nx ++ [s]) ++ [o]) := by simp [strsC]
              rw [hsn4] at ho4
              obtain ⟨A4, c4, rfl, hca4, hcb4⟩ := ownsSlice ho4
              have hO4 := Lib.hid ho4
              obtain ⟨y04, y14⟩ := HZ.out _ hb4
              clear ho4 hg4 hgr4 hsn4 hO3 hb3
              have hll : ((nx ++ [s]) ++ [o]).length = nx.length + 1 + 1 := by simp
              have hOO : Hid (w4.ownsRow u.heap.size 9 1 (.slice A4 ((nx ++ [s]) ++ [o]).length c4) ((nx ++ [s]) ++ [o]).length (strsC ((nx ++ [s]) ++ [o]))) := by rw [hll]; exact hO4
              go_wp2
              go_roundw
              case rel => exact ⟨k + 1, (nx ++ [s]) ++ [o], A4, c4, true, by omega, by rw [hll], rfl, by go_num, HN, hOO, by rw [hll]; omega, hb4⟩
              case measure => simp [intOf]; omega
            · have HN := Lib.hid (HQL.out hc)
              rw [decide_eq_false hc] at hLT
              clear HQL HQN hc
              go_upto_region 11 with fail
              refine wp_region_held_drew (S := fun V => V.cell? (ad.add i) = some (.string s) ∧ V.cell? (ao.add k) = some (.string o)) (by kernel_rfl) ?_ (fun hHeld => ?_)
              · exact HZ.out _ hbv.drew
              refine tk 0 26 ?_
              refine tk 1 27 ?_
              refine tk 2 28 ?_
              refine tk 3 29 ?_
              refine tk 4 30 ?_
              refine tk 5 31 ?_
              refine tk 6 32 ?_
              refine tk 7 33 ?_
              refine tk 8 34 ?_
              refine tk 9 35 ?_
              refine tk 10 36 ?_
              refine tk 11 37 ?_
              refine tk 12 38 ?_
              refine wpAnyH_done (by kernel_rfl) ?_ _
              have hbd : Below u.heap.size u wr.drew := hbv.drew
              have hod := Lib.hid (show wr.drew.ownsRow u.heap.size 9 1 (.slice Ax nx.length cx) nx.length (strsC nx) from ho.out)
              obtain ⟨y0, y1⟩ := HZ.out _ hbd
              clear ho hbv hHeld z0 z1
              generalize wr.drew = wd at *
              have hsz4 := hbd.size
              go_wp2_with (at_builtin; refine wpList_append1g (P := Tryz.prog) rfl (.tmp 46) (.tmp 51) 34 rfl u.heap.size 9 (.string ByteArray.empty) 1 16 Tryz.underlying34 info9 (by decide) (by decide) (.slice Ax nx.length cx) nx.length (strsC nx) rfl (hod.out.alloc _) wd.heap.size #[.string o] 9 rfl (Bk.new _ _ _) rfl ?c1 ?c2 (by decide) ?c3 ?_)
              case c1 => rfl
              case c2 => omega
              case c3 => first | omega | (simp; omega)
              intro v4 w4 ho4 hg4
              have hgr4 : ∀ j, (Value.slice Ax nx.length cx).ownBlock = some j → u.heap.size ≤ j := fun j hj => (hod.out.lt j hj).1
              have hb4 : Below u.heap.size u w4 := (hbd.alloc hsz4 _).grown hg4 (by simp; omega) hgr4
              have hsn4 : strsC nx ++ (#[Value.string o] : Array Value).toList = strsC (nx ++ [o]) := by simp [strsC]
              rw [hsn4] at ho4
              obtain ⟨A4, c4, rfl, hca4, hcb4⟩ := ownsSlice ho4
              have hO4 := Lib.hid ho4
              obtain ⟨y04, y14⟩ := HZ.out _ hb4
              clear ho4 hg4 hgr4 hsn4 hod hbd
              have hll : (nx ++ [o]).length = nx.length + 1 := by simp
              have hOO : Hid (w4.ownsRow u.heap.size 9 1 (.slice A4 (nx ++ [o]).length c4) (nx ++ [o]).length (strsC (nx ++ [o]))) := by rw [hll]; exact hO4
              go_wp2
              go_roundw
              case rel => exact ⟨k + 1, nx ++ [o], A4, c4, false, by omega, by rw [hll], rfl, by go_num, HN, hOO, by rw [hll]; omega, hb4⟩
              case measure => simp [intOf]; omega
          · have HN := Lib.hid (HQD.out hQ.out)
            clear HQL HQN HQD hQ hLT
            go_upto_region 11 with fail
            refine wp_region_held_drew (S := fun V => V.cell? (ad.add i) = some (.string s) ∧ V.cell? (ao.add k) = some (.string o)) (by kernel_rfl) ?_ (fun hHeld => ?_)
            · exact HZ.out _ hbv.drew
            refine tk 0 26 ?_
            refine tk 1 27 ?_
            refine tk 2 28 ?_
            refine sk 3 29 ?_
            refine sk 4 30 ?_
            refine sk 5 31 ?_
            refine sk 6 32 ?_
            refine sk 7 33 ?_
            refine sk 8 34 ?_
            refine sk 9 35 ?_
            refine sk 10 36 ?_
            refine sk 11 37 ?_
            refine tk 12 38 ?_
            refine wpAnyH_done (by kernel_rfl) ?_ _
            have hbd : Below u.heap.size u wr.drew := hbv.drew
            have hod := Lib.hid (show wr.drew.ownsRow u.heap.size 9 1 (.slice Ax nx.length cx) nx.length (strsC nx) from ho.out)
            obtain ⟨y0, y1⟩ := HZ.out _ hbd
            clear ho hbv hHeld z0 z1
            generalize wr.drew = wd at *
            have hsz4 := hbd.size
            go_wp2_with (at_builtin; refine wpList_append1g (P := Tryz.prog) rfl (.tmp 46) (.tmp 51) 34 rfl u.heap.size 9 (.string ByteArray.empty) 1 16 Tryz.underlying34 info9 (by decide) (by decide) (.slice Ax nx.length cx) nx.length (strsC nx) rfl (hod.out.alloc _) wd.heap.size #[.string o] 9 rfl (Bk.new _ _ _) rfl ?c1 ?c2 (by decide) ?c3 ?_)
            case c1 => rfl
            case c2 => omega
            case c3 => first | omega | (simp; omega)
            intro v4 w4 ho4 hg4
            have hgr4 : ∀ j, (Value.slice Ax nx.length cx).ownBlock = some j → u.heap.size ≤ j := fun j hj => (hod.out.lt j hj).1
            have hb4 : Below u.heap.size u w4 := (hbd.alloc hsz4 _).grown hg4 (by simp; omega) hgr4
            have hsn4 : strsC nx ++ (#[Value.string o] : Array Value).toList = strsC (nx ++ [o]) := by simp [strsC]
            rw [hsn4] at ho4
            obtain ⟨A4, c4, rfl, hca4, hcb4⟩ := ownsSlice ho4
            have hO4 := Lib.hid ho4
            obtain ⟨y04, y14⟩ := HZ.out _ hb4
            clear ho4 hg4 hgr4 hsn4 hod hbd
            have hll : (nx ++ [o]).length = nx.length + 1 := by simp
            have hOO : Hid (w4.ownsRow u.heap.size 9 1 (.slice A4 (nx ++ [o]).length c4) (nx ++ [o]).length (strsC (nx ++ [o]))) := by rw [hll]; exact hO4
            go_wp2
            go_roundw
            case rel => exact ⟨k + 1, nx ++ [o], A4, c4, true, by omega, by rw [hll], rfl, by go_num, HN, hOO, by rw [hll]; omega, hb4⟩
            case measure => simp [intOf]; omega
        · obtain rfl : k = out.length := by omega
          cases db
          · obtain ⟨hp1, hp2⟩ := hQ.out.endF HSR.out
            have HN := Lib.hid (HIN.out _ hp1 hp2)
            have HNL : Hid (nx.length ≤ out.length) := by show _ ≤ _; rw [(hQ.out.no rfl).1]; simp
            clear hp1 hp2 hQ HIN HSR HX2
            have hbd := hbv
            have hod := ho
            have HZ := HLO
            have hsz4 := hbd.size
            go_wp2_with (at_builtin; refine wpList_append1g (P := Tryz.prog) rfl (.tmp 55) (.tmp 60) 34 rfl u.heap.size 9 (.string ByteArray.empty) 1 16 Tryz.underlying34 info9 (by decide) (by decide) (.slice Ax nx.length cx) nx.length (strsC nx) rfl (hod.out.alloc _) wr.heap.size #[.string s] 9 rfl (Bk.new _ _ _) rfl ?c1 ?c2 (by decide) ?c3 ?_)
            case c1 => rfl
            case c2 => omega
            case c3 => first | omega | (simp; omega)
            intro v4 w4 ho4 hg4
            have hgr4 : ∀ j, (Value.slice Ax nx.length cx).ownBlock = some j → u.heap.size ≤ j := fun j hj => (hod.out.lt j hj).1
            have hb4 : Below u.heap.size u w4 := (hbd.alloc hsz4 _).grown hg4 (by simp; omega) hgr4
            have hsn4 : strsC nx ++ (#[Value.string s] : Array Value).toList = strsC (nx ++ [s]) := by simp [strsC]
            rw [hsn4] at ho4
            obtain ⟨A4, c4, rfl, hca4, hcb4⟩ := ownsSlice ho4
            have hO4 := Lib.hid ho4
            clear HZ ho4 hg4 hgr4 hsn4 hod hbd
            have hll : (nx ++ [s]).length = nx.length + 1 := by simp
            have hLL := Lib.hid (ownsRow_lies hO4.out)
            have hcc : Hid (nx.length + 1 ≤ c4 ∧ c4 ≤ maxLen) := ⟨hca4, hcb4⟩
            have hbF : Below w.heap.size w w4 := hbu.trans (hb4.mono hbu.size)
            have hle : nx.length + 1 ≤ i + 1 := by have h := HNL.out; omega
            go_wp2
            go_roundw
            case rel => exact ⟨i + 1, nx ++ [s], A4, c4, by omega, by rw [hll], by go_num, HN, hLL, by rw [hll]; exact hcc, by rw [hll]; exact hle, hbF⟩
            case measure => simp [intOf]; omega
          · obtain ⟨hp1, hp2⟩ := hQ.out.endT
            have HN := Lib.hid (HIN.out _ hp1 hp2)
            clear hp1 hp2 hQ HIN HSR HX2
            have hLL := Lib.hid (ownsRow_lies ho.out)
            have hcap := ownsSlice ho.out
            have hcc : Hid (nx.length ≤ cx ∧ cx ≤ maxLen) := by obtain ⟨A9, c9, e9, h1, h2⟩ := hcap; cases e9; exact ⟨h1, h2⟩
            have hbF : Below w.heap.size w wr := hbu.trans (hbv.mono hbu.size)
            clear hcap
            go_wp2
            go_roundw
            case rel => exact ⟨i + 1, nx, Ax, cx, by omega, rfl, by go_num, HN, hLL, hcc, by omega, hbF⟩
            case measure => simp [intOf]; omega
    · obtain rfl : i = L.length := by omega
      rw [HTE.out] at hS
      have hc := hc1.out
      clear HTE HLW
      go_wp2
      go_ret
      exact ⟨out, A1, c1, hS.out, by omega, rfl, hL1.out, hc, hbw⟩
set_option maxHeartbeats 2000000 in
set_option maxRecDepth 100000 in
theorem rGroups_any (l : List Rul) (A : Option Addr) (c : Nat) (known : Int) (x : ByteArray) (w : World) (hl : Lies w w.heap.size A (rulesC l)) (hok : RulOK l) (hm : l.length ≤ 1000) (hxs : x.size ≤ 100) :
    Calls Tryz.prog 42 #[.agg #[.slice A l.length c], .int .i64 known, .string x] w (GpE (inG (cntL l known) x) w) := by
  have HC : Hid (∀ W, Below w.heap.size w W → Calls Tryz.prog 39 #[.agg #[.slice A l.length c], .int .i64 known] W (SlE (cntL l known) W)) := fun W hb => rcounting_any l A c known W ((hl.below hb (Nat.le_refl _)).more hb.size) hok hm
  have HG := Lib.hid (fun A' c' W hL => rgroups_any (cntL l known) A' c' x W hL (Nat.le_trans (cnt_len l known) hm))
  have hgl := grps_len (cntL l known) x
  have hcl := Nat.le_trans (cnt_len l known) hm
  have HSO := Lib.hid (fun A' c' W hL => rsorted_any (grps (cntL l known) x) A' c' W hL (by omega))
  have HMM : Hid (∀ s, s ∈ grps (cntL l known) x ↔ (s.size ≤ maxLen ∧ inG (cntL l known) x s = true)) := fun s => by
    rw [inG_iff, grps_iff]
    constructor
    · intro h
      refine ⟨?_, h⟩
      have h100 : s.size ≤ 100 := Reach.inv (P := fun z => z.size ≤ 100) h hxs (by
        rintro a b _ ⟨r, hr, _, _, rfl⟩
        exact (hok r (cnt_sub l known r hr)).2.1)
      unfold maxLen; omega
    · exact fun h => h.2
  generalize grps (cntL l known) x = G at *
  clear hl hok
  go_enter Tryz.func42, Tryz.ntmps42
  go_wp2_with (first | (go_at_call 39; refine (HC.out _ (by repeat (first | with_reducible exact Below.refl _ _ | with_reducible assumption | with_reducible refine Below.drew ?_ | with_reducible refine below_drewN ?_ _ | (with_reducible refine Below.alloc ?_ ?_ _; rotate_left; (try simp) <;> omega) | (with_reducible refine Below.setCell ?_ ?_ _; rotate_left; (try simp) <;> omega)))).mono ?_; rintro e w1 ⟨A1, c1, rfl, hl1, _, hb1⟩; have hB1 : Below w.heap.size w w1 := Below.trans (by repeat (first | with_reducible exact Below.refl _ _ | with_reducible assumption | with_reducible refine Below.drew ?_ | with_reducible refine below_drewN ?_ _ | (with_reducible refine Below.alloc ?_ ?_ _; rotate_left; (try simp) <;> omega) | (with_reducible refine Below.setCell ?_ ?_ _; rotate_left; (try simp) <;> omega))) (hb1.mono (by simp))) | (go_at_call 76; refine (HG.out _ _ _ hl1).mono ?_; rintro e w2 ⟨A2, c2, rfl, hl2, _, hb2⟩; have hB2 : Below w.heap.size w w2 := hB1.trans (hb2.mono hB1.size)) | (go_at_call 91; refine (HSO.out _ _ _ hl2).mono ?_; rintro e w3 ⟨R, A3, c3, hR, hRl, rfl, hL3, hc3, hb3⟩))
  have HR := Lib.hid (srtS_of hR HMM.out)
  have HLI := Lib.hid hL3
  clear hR hL3
  go_ret
  exact ⟨R, A3, c3, HR.out, hRl, rfl, HLI.out, hc3, hB2.trans (hb3.mono hB2.size)⟩
end Go.Proofs.YtkfeagokmcakgaaGreatDoor

namespace Go.Proofs.YtkfeagokmcakgaaGreatDoor

theorem cmp_up (zs : List Int) (hs : zs.Pairwise (fun a b => a ≤ b)) : ∀ m, m ≤ zs.length → (Lib.compactUpTo zs.toArray m).Pairwise (fun a b => a < b) ∧ ∀ z, z ∈ Lib.compactUpTo zs.toArray m ↔ z ∈ zs.take m
  | 0, _ => by simp [Lib.compactUpTo]
  | m + 1, hm => by
    obtain ⟨h1, h2⟩ := cmp_up zs hs m (by omega)
    have hlt : m < zs.length := by omega
    have hget : zs.toArray[m]! = zs[m] := by simp [hlt]
    rw [Lib.compactUpTo_succ]
    have htk : zs.take (m + 1) = zs.take m ++ [zs[m]] := (List.take_append_getElem hlt).symm
    by_cases hk : Lib.keeps zs.toArray m = true
    · rw [if_pos hk, hget]
      refine ⟨?_, fun z => by rw [htk, List.mem_append, List.mem_append, h2 z]⟩
      rw [List.pairwise_append]
      refine ⟨h1, by simp, fun a ha b hb => ?_⟩
      simp at hb
      subst hb
      have ha2 := (h2 a).1 ha
      obtain ⟨j, hj, rfl⟩ := List.mem_take_iff_getElem.1 ha2
      have hjm : j < m := by omega
      have hle : zs[j] ≤ zs[m - 1]'(by omega) := by
        by_cases e : j = m - 1
        · subst e; exact Int.le_refl _
        · exact List.pairwise_iff_getElem.1 hs j (m - 1) (by omega) (by omega) (by omega)
      have hle2 : zs[m - 1]'(by omega) ≤ zs[m] := List.pairwise_iff_getElem.1 hs (m - 1) m (by omega) hlt (by omega)
      have hne : zs[m - 1]'(by omega) ≠ zs[m] := fun e => by
        simp [Lib.keeps, hlt, show m - 1 < zs.length by omega] at hk
        omega
      omega
    · rw [if_neg hk, List.append_nil, htk]
      refine ⟨h1, fun z => ?_⟩
      rw [h2 z, List.mem_append, List.mem_singleton]
      constructor
      · exact .inl
      · rintro (h | rfl)
        · exact h
        · simp [Lib.keeps, hlt, show m - 1 < zs.length by omega] at hk
          rw [List.mem_take_iff_getElem]
          refine ⟨m - 1, by omega, ?_⟩
          have := hk.2
          omega
/-- ascending, with these members -/
structure AscI (R : List Int) (p : Int → Prop) : Prop where
  srt : R.Pairwise fun a b => a < b
  mem : ∀ z, z ∈ R ↔ p z
theorem AscI.uniq {R R' : List Int} {p : Int → Prop} (h : AscI R p) (k : AscI R' p) : R = R' := by
  have n1 : R.Nodup := h.srt.imp (fun h => by omega)
  have n2 : R'.Nodup := k.srt.imp (fun h => by omega)
  exact List.Perm.eq_of_pairwise (le := fun a b : Int => a < b) (fun a b _ _ h1 h2 => by omega) h.srt k.srt ((List.perm_ext_iff_of_nodup n1 n2).2 fun z => (h.mem z).trans (k.mem z).symm)
/-- the id of a rule that says something about a name -/
def sayP (d : List Rul) (x : ByteArray) (z : Int) : Prop := ∃ r ∈ abtL d x, r.id = z
theorem why_asc (d : List Rul) (x : ByteArray) : AscI (whyL d x) (sayP d x) := by
  unfold whyL Lib.compact
  have hs : (((abtL d x).map Rul.id).mergeSort fun a b => decide (a ≤ b)).Pairwise (fun a b => a ≤ b) := by
    have h := List.pairwise_mergeSort (le := fun a b : Int => decide (a ≤ b)) (fun a b c h1 h2 => by simp at h1 h2 ⊢; omega) (fun a b => by simp; omega) ((abtL d x).map Rul.id)
    exact h.imp (by simp)
  obtain ⟨h1, h2⟩ := cmp_up _ hs _ (Nat.le_refl _)
  refine ⟨h1, fun z => ?_⟩
  rw [h2 z, List.take_length, (List.mergeSort_perm _ _).mem_iff, List.mem_map]
  rfl
end Go.Proofs.YtkfeagokmcakgaaGreatDoor

namespace Go.Proofs.YtkfeagokmcakgaaGreatDoor
open Go.RowKit

/-- the least id from I on of the rules that S takes -/
structure MinQ (S : Rul → Bool) (I : Int) (m : List Rul) (a : Int) : Prop where
  none_ : a < 0 → a = -1 ∧ ∀ r ∈ m, S r = true → r.id < I
  some_ : 0 ≤ a → (∃ r ∈ m, S r = true ∧ r.id = a) ∧ I ≤ a ∧ ∀ r ∈ m, S r = true → I ≤ r.id → a ≤ r.id
theorem MinQ.start (S : Rul → Bool) (I : Int) : MinQ S I [] (-1) := ⟨fun _ => ⟨rfl, fun r hr => by cases hr⟩, fun h => absurd h (by decide)⟩
theorem MinQ.skip {S : Rul → Bool} {I a : Int} {m : List Rul} {r : Rul} (h : MinQ S I m a) (hs : S r = true → I ≤ r.id → 0 ≤ a ∧ a ≤ r.id) : MinQ S I (m ++ [r]) a := by
  refine ⟨fun ha => ⟨(h.none_ ha).1, fun q hq hqs => ?_⟩, fun ha => ?_⟩
  · rcases List.mem_append.1 hq with h1 | h1
    · exact (h.none_ ha).2 q h1 hqs
    · simp at h1; subst h1
      by_cases hI : I ≤ q.id
      · have := (hs hqs hI).1; omega
      · omega
  · obtain ⟨⟨q, hq, h1, h2⟩, h3, h4⟩ := h.some_ ha
    refine ⟨⟨q, List.mem_append_left _ hq, h1, h2⟩, h3, fun p hp hps hpI => ?_⟩
    rcases List.mem_append.1 hp with g | g
    · exact h4 p g hps hpI
    · simp at g; subst g; exact (hs hps hpI).2
theorem MinQ.hit {S : Rul → Bool} {I a : Int} {m : List Rul} {r : Rul} (h : MinQ S I m a) (hs : S r = true) (hI : I ≤ r.id) (h1 : 1 ≤ I) (ha : a < 0 ∨ r.id < a) : MinQ S I (m ++ [r]) r.id := by
  refine ⟨fun h2 => by omega, fun _ => ⟨⟨r, by simp, hs, rfl⟩, hI, fun p hp hps hpI => ?_⟩⟩
  rcases List.mem_append.1 hp with g | g
  · rcases ha with ha | ha
    · have := (h.none_ ha).2 p g hps; omega
    · by_cases h0 : 0 ≤ a
      · have := (h.some_ h0).2.2 p g hps hpI; omega
      · have := (h.none_ (by omega)).2 p g hps; omega
  · simp at g; subst g; exact Int.le_refl _
/-- the ids below I of the rules that S takes -/
structure WhQ (S : Rul → Bool) (d : List Rul) (I : Int) (R : List Int) : Prop where
  srt : R.Pairwise fun a b => a < b
  mem : ∀ z, z ∈ R ↔ ((∃ r ∈ d, S r = true ∧ r.id = z) ∧ z < I)
theorem WhQ.start {S : Rul → Bool} {d : List Rul} (h : ∀ r ∈ d, 1 ≤ r.id ∧ r.id ≤ 1000000) : WhQ S d 1 [] := ⟨List.Pairwise.nil, fun z => ⟨fun h => (by cases h), fun ⟨⟨r, hr, _, e⟩, h2⟩ => by have := (h r hr).1; omega⟩⟩
theorem WhQ.len {S : Rul → Bool} {d : List Rul} {I : Int} {R : List Int} (h : WhQ S d I R) : R.length ≤ d.length := by
  have := nodup_len R (d.map Rul.id) (h.srt.imp (fun h => by omega)) (fun z hz => by
    obtain ⟨⟨r, hr, _, e⟩, _⟩ := (h.mem z).1 hz
    exact List.mem_map.2 ⟨r, hr, e⟩)
  simpa using this
theorem WhQ.full {S : Rul → Bool} {d : List Rul} {I : Int} {R : List Int} (h : WhQ S d I R) (hn : ¬ R.length < d.length) : ∀ z, z ∈ R ↔ ∃ r ∈ d, S r = true ∧ r.id = z := fun z => by
  constructor
  · exact fun hz => ((h.mem z).1 hz).1
  · intro hz
    refine Classical.byContradiction fun hno => ?_
    have := nodup_len (z :: R) (d.map Rul.id) (List.nodup_cons.2 ⟨hno, h.srt.imp (fun h => by omega)⟩) (fun y hy => by
      rcases List.mem_cons.1 hy with rfl | hy
      · obtain ⟨r, hr, _, e⟩ := hz
        exact List.mem_map.2 ⟨r, hr, e⟩
      · obtain ⟨⟨r, hr, _, e⟩, _⟩ := (h.mem y).1 hy
        exact List.mem_map.2 ⟨r, hr, e⟩)
    simp at this
    omega
theorem WhQ.past {S : Rul → Bool} {d : List Rul} {I : Int} {R : List Int} (h : WhQ S d I R) (hn : ∀ r ∈ d, S r = true → r.id < I) : ∀ z, z ∈ R ↔ ∃ r ∈ d, S r = true ∧ r.id = z := fun z => by
  rw [h.mem z]
  constructor
  · exact fun h => h.1
  · rintro ⟨r, hr, hs, e⟩
    exact ⟨⟨r, hr, hs, e⟩, by have := hn r hr hs; omega⟩
theorem WhQ.next {S : Rul → Bool} {d : List Rul} {I M : Int} {R : List Int} (h : WhQ S d I R) (hm : MinQ S I d M) (h0 : 0 ≤ M) : WhQ S d (M + 1) (R ++ [M]) := by
  obtain ⟨⟨r, hr, hs, e⟩, hI, hmin⟩ := hm.some_ h0
  refine ⟨?_, fun z => ?_⟩
  · rw [List.pairwise_append]
    refine ⟨h.srt, by simp, fun a ha b hb => ?_⟩
    simp at hb; subst hb
    have := ((h.mem a).1 ha).2
    omega
  · rw [List.mem_append, List.mem_singleton, h.mem z]
    constructor
    · rintro (⟨h1, h2⟩ | rfl)
      · exact ⟨h1, by omega⟩
      · exact ⟨⟨r, hr, hs, e⟩, by omega⟩
    · rintro ⟨⟨q, hq, hqs, rfl⟩, h2⟩
      by_cases hqI : q.id < I
      · exact .inl ⟨⟨q, hq, hqs, rfl⟩, hqI⟩
      · have := hmin q hq hqs (by omega)
        exact .inr (by omega)
def sayB (G : List ByteArray) (r : Rul) : Bool := aboB r 1 G || aboB r 2 G
theorem say_iff (d : List Rul) (x : ByteArray) (z : Int) : (∃ r ∈ d, sayB (grps d x) r = true ∧ r.id = z) ↔ sayP d x z := by
  have he : ∀ r, sayB (grps d x) r = abtB d x r := fun r => by
    unfold sayB aboB abtB inG
    cases decide (r.kind = 1) <;> cases decide (r.kind = 2) <;> cases decide (r.x ∈ grps d x) <;> rfl
  unfold sayP abtL
  constructor
  · rintro ⟨r, hr, hs, e⟩
    exact ⟨r, List.mem_filter.2 ⟨hr, by rw [← he]; exact hs⟩, e⟩
  · rintro ⟨r, hr, e⟩
    obtain ⟨h1, h2⟩ := List.mem_filter.1 hr
    exact ⟨r, h1, by rw [he]; exact h2, e⟩
def WhE (p : Int → Prop) (w : World) (e : Ending) (w' : World) : Prop := ∃ R A c, AscI R p ∧ R.length ≤ 1000 ∧ e = .returned (.slice A R.length c) ∧ Lies w' w'.heap.size A (ints R) ∧ Below w.heap.size w w'
theorem cnt_ids {l : List Rul} {known : Int} : ∀ r ∈ cntL l known, 1 ≤ r.id ∧ r.id ≤ 1000000 := fun r hr => by
  have h := (List.mem_filter.1 hr).2
  unfold cntB at h
  have hf : frm r = true := by cases hf : frm r <;> simp [hf] at h ⊢
  unfold frm at hf
  simp at hf
  omega
set_option maxHeartbeats 6000000 in
set_option maxRecDepth 100000 in
theorem rwhy_any (l : List Rul) (A : Option Addr) (c : Nat) (known : Int) (x : ByteArray) (w : World) (hl : Lies w w.heap.size A (rulesC l)) (hok : RulOK l) (hm : l.length ≤ 1000) :
    Calls Tryz.prog 45 #[.agg #[.slice A l.length c], .int .i64 known, .string x] w (WhE (sayP (cntL l known) x) w) := by
  have HC : Hid (∀ W, Below w.heap.size w W → Calls Tryz.prog 39 #[.agg #[.slice A l.length c], .int .i64 known] W (SlE (cntL l known) W)) := fun W hb => rcounting_any l A c known W ((hl.below hb (Nat.le_refl _)).more hb.size) hok hm
  have HG := Lib.hid (fun A' c' W hL => rgroups_any (cntL l known) A' c' x W hL (Nat.le_trans (cnt_len l known) hm))
  have hgl := grps_len (cntL l known) x
  have hdl := Nat.le_trans (cnt_len l known) hm
  have HID := Lib.hid (cnt_ids (l := l) (known := known))
  have HSY := Lib.hid (say_iff (cntL l known) x)
  generalize cntL l known = d at *
  generalize grps d x = G at *
  have HSD : Hid (∀ r, sayB G r = (aboB r 1 G || aboB r 2 G)) := fun _ => rfl
  have HQ0 : Hid (WhQ (sayB G) d 1 []) := WhQ.start HID.out
  have HEND : Hid (∀ R : List Int, R.Pairwise (fun a b => a < b) → (∀ z, z ∈ R ↔ ∃ r ∈ d, sayB G r = true ∧ r.id = z) → AscI R (sayP d x)) := fun R h1 h2 => ⟨h1, fun z => (h2 z).trans (HSY.out z)⟩
  have HTE : Hid (d.take d.length = d) := List.take_length
  clear hl hok HSY
  go_enter Tryz.func45, Tryz.ntmps45
  go_upto_region 5 with (first | (go_at_call 39; refine (HC.out _ (by repeat (first | with_reducible exact Below.refl _ _ | with_reducible assumption | with_reducible refine Below.drew ?_ | with_reducible refine below_drewN ?_ _ | (with_reducible refine Below.alloc ?_ ?_ _; rotate_left; (try simp) <;> omega) | (with_reducible refine Below.setCell ?_ ?_ _; rotate_left; (try simp) <;> omega)))).mono ?_; rintro e w1 ⟨A1, c1, rfl, hl1, _, hb1⟩; have hB1 : Below w.heap.size w w1 := Below.trans (by repeat (first | with_reducible exact Below.refl _ _ | with_reducible assumption | with_reducible refine Below.drew ?_ | with_reducible refine below_drewN ?_ _ | (with_reducible refine Below.alloc ?_ ?_ _; rotate_left; (try simp) <;> omega) | (with_reducible refine Below.setCell ?_ ?_ _; rotate_left; (try simp) <;> omega))) (hb1.mono (by simp))) | (go_at_call 76; refine (HG.out _ _ _ hl1).mono ?_; rintro e w2 ⟨A2, c2, rfl, hl2, _, hb2⟩))
  have hB2 : Below w.heap.size w w2 := hB1.trans (hb2.mono hB1.size)
  have HL1 : Hid (∀ V, Below w2.heap.size w2 V → Lies V V.heap.size A1 (rulesC d)) := fun V hV => lies_on (lies_on hl1 hb2) hV
  have HL2 : Hid (∀ V, Below w2.heap.size w2 V → Lies V V.heap.size A2 (strsC G)) := fun V hV => lies_on hl2 hV
  have hb22 : Below w2.heap.size w2 w2 := Below.refl _ _
  clear HC HG hl1 hl2 hb1 hb2 hB1
  go_loopw [9, 10] (fun v y wr => ∃ (R : List Int) (A' : Option Addr) (c' : Nat) (I : Int), v = .slice A' R.length c' ∧ y = .int .i64 I ∧ (1 ≤ I ∧ I ≤ 1000001) ∧ Hid (WhQ (sayB G) d I R) ∧ Hid (wr.ownsRow w2.heap.size 3 1 (.slice A' R.length c') R.length (ints R)) ∧ R.length ≤ d.length ∧ Below w2.heap.size w2 wr) (fun _ y _ => (1000001 - intOf y).toNat)
  case atStart => exact ⟨[], none, 0, 1, rfl, rfl, by omega, HQ0, World.ownsRow_nil _ _ _ _, by simp, hb22⟩
  case round =>
    obtain ⟨R, A', c', I, rfl, rfl, hI, hQ, ho, hRl, hbw⟩ := hrel
    clear HQ0 hb22
    by_cases hc1 : I ≤ 1000000
    case neg =>
      have HA := Lib.hid (HEND.out R hQ.out.srt (hQ.out.past (fun r hr _ => by have := (HID.out r hr).2; omega)))
      have hLI := Lib.hid (ownsRow_lies ho.out)
      have hBF := Lib.hid (hB2.trans (hbw.mono hB2.size))
      clear HEND hQ HID HL1 HL2 HSD HTE
      go_wp2
      go_ret
      exact ⟨R, A', c', HA.out, by omega, rfl, hLI.out, hBF.out⟩
    by_cases hc2 : R.length < d.length
    case neg =>
      have HA := Lib.hid (HEND.out R hQ.out.srt (hQ.out.full hc2))
      have hc21 : ¬ (R.length : Int) < (d.length : Int) := by omega
      have hLI := Lib.hid (ownsRow_lies ho.out)
      have hBF := Lib.hid (hB2.trans (hbw.mono hB2.size))
      clear HEND hQ HID HL1 HL2 HSD HTE
      go_wp2
      go_ret
      exact ⟨R, A', c', HA.out, by omega, rfl, hLI.out, hBF.out⟩
    have hc21 : (R.length : Int) < (d.length : Int) := by omega
    go_upto_region 9 with fail
    have HM0 : Hid (MinQ (sayB G) I (d.take 0) (-1)) := MinQ.start _ _
    have hbuu : Below wr.heap.size wr wr := Below.refl _ _
    have HWL : Hid (∀ V, Below wr.heap.size wr V → Below w2.heap.size w2 V) := fun V hV => hbw.trans (hV.mono hbw.size)
    generalize wr = wq at *
    go_loopw [11, 12] (fun v y wr => ∃ (k : Nat) (M : Int), k ≤ d.length ∧ v = .int .i64 M ∧ y = .int .i64 k ∧ Hid (MinQ (sayB G) I (d.take k) M) ∧ Below wq.heap.size wq wr) (fun _ y _ => d.length - (intOf y).toNat)
    case atStart => exact ⟨0, -1, by omega, rfl, rfl, HM0, hbuu⟩
    case round =>
      obtain ⟨k, M, hk, rfl, rfl, hM, hbv⟩ := hrel
      clear HM0 hbuu
      by_cases hkl : k < d.length
      · obtain ⟨ad, rfl, _, d0, d1, d2, d3, d4, d5⟩ := rule_at (HL1.out wr (HWL.out wr hbv)) hkl
        have HD : Hid (∀ V, Below wq.heap.size wq V → V.cell? (ad.add (k * 6)) = some (.int .i64 d[k].id) ∧ V.cell? ⟨(ad.add (k * 6)).block, (ad.add (k * 6)).off + 1, none⟩ = some (.int .i64 d[k].known) ∧ V.cell? ⟨(ad.add (k * 6)).block, (ad.add (k * 6)).off + 2, none⟩ = some (.int .u8 d[k].kind) ∧ V.cell? ⟨(ad.add (k * 6)).block, (ad.add (k * 6)).off + 3, none⟩ = some (.string d[k].x) ∧ V.cell? ⟨(ad.add (k * 6)).block, (ad.add (k * 6)).off + 4, none⟩ = some (.string d[k].y) ∧ V.cell? ⟨(ad.add (k * 6)).block, (ad.add (k * 6)).off + 5, none⟩ = some (.int .i64 d[k].of)) := fun V hV => by
          obtain ⟨ad2, e2, _, e0, e1, e3, e4, e5, e6⟩ := rule_at (HL1.out V (HWL.out V hV)) hkl
          cases e2
          exact ⟨e0, e1, e3, e4, e5, e6⟩
        have k1 : AboK wq d[k] 1 A2 G.length c2 (aboB d[k] 1 G) := ⟨fun V hV => rabout_any d[k] 1 G A2 c2 V (HL2.out V (HWL.out V hV)) (by omega)⟩
        have k2 : AboK wq d[k] 2 A2 G.length c2 (aboB d[k] 2 G) := ⟨fun V hV => rabout_any d[k] 2 G A2 c2 V (HL2.out V (HWL.out V hV)) (by omega)⟩
        have HSR := Lib.hid (HSD.out d[k])
        have HSKP : Hid ((sayB G d[k] = true → I ≤ d[k].id → 0 ≤ M ∧ M ≤ d[k].id) → MinQ (sayB G) I (d.take (k + 1)) M) := fun h => by rw [← List.take_append_getElem hkl]; exact hM.out.skip h
        have HHIT : Hid (sayB G d[k] = true → I ≤ d[k].id → (M < 0 ∨ d[k].id < M) → MinQ (sayB G) I (d.take (k + 1)) d[k].id) := fun h1 h2 h3 => by rw [← List.take_append_getElem hkl]; exact hM.out.hit h1 h2 hI.1 h3
        generalize aboB d[k] 1 G = a1 at *
        generalize aboB d[k] 2 G = a2 at *
        generalize sayB G d[k] = sb at *
        generalize d[k] = r at *
        obtain ⟨id, kn, kd, rx, ry, of⟩ := r
        dsimp only at *
        have HSR : Hid (sb = (a1 || a2)) := HSR.out
        clear hM HEND HID HTE HSD
        cases a1
        · cases a2
          · have HN : Hid (MinQ (sayB G) I (d.take (k + 1)) M) := HSKP.out (fun h => by rw [HSR.out] at h; cases h)
            clear HSKP HHIT HSR
            go_wp2_with (first | (go_at_call 96; refine (AboK.go (by assumption) (by assumption)).mono ?_; rintro e u ⟨rfl, hb⟩; have hbu : Below wq.heap.size wq u := Below.trans (by assumption) (hb.mono (Below.size (by assumption))); obtain ⟨s0, s1, s2, s3, s4, s5⟩ := HD.out u hbu; clear hb))
            go_roundw
            case rel => exact ⟨k + 1, M, by omega, rfl, by go_num, HN, hbu⟩
            case measure => simp [intOf]; omega
          · by_cases hi1 : I ≤ id
            case neg =>
              have HN : Hid (MinQ (sayB G) I (d.take (k + 1)) M) := HSKP.out (fun _ h => absurd h hi1)
              clear HSKP HHIT HSR
              go_wp2_with (first | (go_at_call 96; refine (AboK.go (by assumption) (by assumption)).mono ?_; rintro e u ⟨rfl, hb⟩; have hbu : Below wq.heap.size wq u := Below.trans (by assumption) (hb.mono (Below.size (by assumption))); obtain ⟨s0, s1, s2, s3, s4, s5⟩ := HD.out u hbu; clear hb))
              go_roundw
              case rel => exact ⟨k + 1, M, by omega, rfl, by go_num, HN, hbu⟩
              case measure => simp [intOf]; omega
            by_cases hm1 : M < 0
            · have HN : Hid (MinQ (sayB G) I (d.take (k + 1)) id) := HHIT.out (by rw [HSR.out]; rfl) hi1 (.inl hm1)
              clear HSKP HHIT HSR
              go_wp2_with (first | (go_at_call 96; refine (AboK.go (by assumption) (by assumption)).mono ?_; rintro e u ⟨rfl, hb⟩; have hbu : Below wq.heap.size wq u := Below.trans (by assumption) (hb.mono (Below.size (by assumption))); obtain ⟨s0, s1, s2, s3, s4, s5⟩ := HD.out u hbu; clear hb))
              go_roundw
              case rel => exact ⟨k + 1, id, by omega, rfl, by go_num, HN, hbu⟩
              case measure => simp [intOf]; omega
            · by_cases hm2 : id < M
              · have HN : Hid (MinQ (sayB G) I (d.take (k + 1)) id) := HHIT.out (by rw [HSR.out]; rfl) hi1 (.inr hm2)
                clear HSKP HHIT HSR
                go_wp2_with (first | (go_at_call 96; refine (AboK.go (by assumption) (by assumption)).mono ?_; rintro e u ⟨rfl, hb⟩; have hbu : Below wq.heap.size wq u := Below.trans (by assumption) (hb.mono (Below.size (by assumption))); obtain ⟨s0, s1, s2, s3, s4, s5⟩ := HD.out u hbu; clear hb))
                go_roundw
                case rel => exact ⟨k + 1, id, by omega, rfl, by go_num, HN, hbu⟩
                case measure => simp [intOf]; omega
              · have HN : Hid (MinQ (sayB G) I (d.take (k + 1)) M) := HSKP.out (fun _ _ => ⟨by omega, by omega⟩)
                clear HSKP HHIT HSR
                go_wp2_with (first | (go_at_call 96; refine (AboK.go (by assumption) (by assumption)).mono ?_; rintro e u ⟨rfl, hb⟩; have hbu : Below wq.heap.size wq u := Below.trans (by assumption) (hb.mono (Below.size (by assumption))); obtain ⟨s0, s1, s2, s3, s4, s5⟩ := HD.out u hbu; clear hb))
                go_roundw
                case rel => exact ⟨k + 1, M, by omega, rfl, by go_num, HN, hbu⟩
                case measure => simp [intOf]; omega
        · cases a2
          · by_cases hi1 : I ≤ id
            case neg =>
              have HN : Hid (MinQ (sayB G) I (d.take (k + 1)) M) := HSKP.out (fun _ h => absurd h hi1)
              clear HSKP HHIT HSR
              go_wp2_with (first | (go_at_call 96; refine (AboK.go (by assumption) (by assumption)).mono ?_; rintro e u ⟨rfl, hb⟩; have hbu : Below wq.heap.size wq u := Below.trans (by assumption) (hb.mono (Below.size (by assumption))); obtain ⟨s0, s1, s2, s3, s4, s5⟩ := HD.out u hbu; clear hb))
              go_roundw
              case rel => exact ⟨k + 1, M, by omega, rfl, by go_num, HN, hbu⟩
              case measure => simp [intOf]; omega
            by_cases hm1 : M < 0
            · have HN : Hid (MinQ (sayB G) I (d.take (k + 1)) id) := HHIT.out (by rw [HSR.out]; rfl) hi1 (.inl hm1)
              clear HSKP HHIT HSR
              go_wp2_with (first | (go_at_call 96; refine (AboK.go (by assumption) (by assumption)).mono ?_; rintro e u ⟨rfl, hb⟩; have hbu : Below wq.heap.size wq u := Below.trans (by assumption) (hb.mono (Below.size (by assumption))); obtain ⟨s0, s1, s2, s3, s4, s5⟩ := HD.out u hbu; clear hb))
              go_roundw
              case rel => exact ⟨k + 1, id, by omega, rfl, by go_num, HN, hbu⟩
              case measure => simp [intOf]; omega
            · by_cases hm2 : id < M
              · have HN : Hid (MinQ (sayB G) I (d.take (k + 1)) id) := HHIT.out (by rw [HSR.out]; rfl) hi1 (.inr hm2)
                clear HSKP HHIT HSR
                go_wp2_with (first | (go_at_call 96; refine (AboK.go (by assumption) (by assumption)).mono ?_; rintro e u ⟨rfl, hb⟩; have hbu : Below wq.heap.size wq u := Below.trans (by assumption) (hb.mono (Below.size (by assumption))); obtain ⟨s0, s1, s2, s3, s4, s5⟩ := HD.out u hbu; clear hb))
                go_roundw
                case rel => exact ⟨k + 1, id, by omega, rfl, by go_num, HN, hbu⟩
                case measure => simp [intOf]; omega
              · have HN : Hid (MinQ (sayB G) I (d.take (k + 1)) M) := HSKP.out (fun _ _ => ⟨by omega, by omega⟩)
                clear HSKP HHIT HSR
                go_wp2_with (first | (go_at_call 96; refine (AboK.go (by assumption) (by assumption)).mono ?_; rintro e u ⟨rfl, hb⟩; have hbu : Below wq.heap.size wq u := Below.trans (by assumption) (hb.mono (Below.size (by assumption))); obtain ⟨s0, s1, s2, s3, s4, s5⟩ := HD.out u hbu; clear hb))
                go_roundw
                case rel => exact ⟨k + 1, M, by omega, rfl, by go_num, HN, hbu⟩
                case measure => simp [intOf]; omega
          · by_cases hi1 : I ≤ id
            case neg =>
              have HN : Hid (MinQ (sayB G) I (d.take (k + 1)) M) := HSKP.out (fun _ h => absurd h hi1)
              clear HSKP HHIT HSR
              go_wp2_with (first | (go_at_call 96; refine (AboK.go (by assumption) (by assumption)).mono ?_; rintro e u ⟨rfl, hb⟩; have hbu : Below wq.heap.size wq u := Below.trans (by assumption) (hb.mono (Below.size (by assumption))); obtain ⟨s0, s1, s2, s3, s4, s5⟩ := HD.out u hbu; clear hb))
              go_roundw
              case rel => exact ⟨k + 1, M, by omega, rfl, by go_num, HN, hbu⟩
              case measure => simp [intOf]; omega
            by_cases hm1 : M < 0
            · have HN : Hid (MinQ (sayB G) I (d.take (k + 1)) id) := HHIT.out (by rw [HSR.out]; rfl) hi1 (.inl hm1)
              clear HSKP HHIT HSR
              go_wp2_with (first | (go_at_call 96; refine (AboK.go (by assumption) (by assumption)).mono ?_; rintro e u ⟨rfl, hb⟩; have hbu : Below wq.heap.size wq u := Below.trans (by assumption) (hb.mono (Below.size (by assumption))); obtain ⟨s0, s1, s2, s3, s4, s5⟩ := HD.out u hbu; clear hb))
              go_roundw
              case rel => exact ⟨k + 1, id, by omega, rfl, by go_num, HN, hbu⟩
              case measure => simp [intOf]; omega
            · by_cases hm2 : id < M
              · have HN : Hid (MinQ (sayB G) I (d.take (k + 1)) id) := HHIT.out (by rw [HSR.out]; rfl) hi1 (.inr hm2)
                clear HSKP HHIT HSR
                go_wp2_with (first | (go_at_call 96; refine (AboK.go (by assumption) (by assumption)).mono ?_; rintro e u ⟨rfl, hb⟩; have hbu : Below wq.heap.size wq u := Below.trans (by assumption) (hb.mono (Below.size (by assumption))); obtain ⟨s0, s1, s2, s3, s4, s5⟩ := HD.out u hbu; clear hb))
                go_roundw
                case rel => exact ⟨k + 1, id, by omega, rfl, by go_num, HN, hbu⟩
                case measure => simp [intOf]; omega
              · have HN : Hid (MinQ (sayB G) I (d.take (k + 1)) M) := HSKP.out (fun _ _ => ⟨by omega, by omega⟩)
                clear HSKP HHIT HSR
                go_wp2_with (first | (go_at_call 96; refine (AboK.go (by assumption) (by assumption)).mono ?_; rintro e u ⟨rfl, hb⟩; have hbu : Below wq.heap.size wq u := Below.trans (by assumption) (hb.mono (Below.size (by assumption))); obtain ⟨s0, s1, s2, s3, s4, s5⟩ := HD.out u hbu; clear hb))
                go_roundw
                case rel => exact ⟨k + 1, M, by omega, rfl, by go_num, HN, hbu⟩
                case measure => simp [intOf]; omega
      · obtain rfl : k = d.length := by omega
        rw [HTE.out] at hM
        have ho2 := Lib.hid (ownsRow_below ho.out hbv (Nat.le_refl _))
        have hbw2 := HWL.out wr hbv
        by_cases hM0 : M < 0
        · have HA := Lib.hid (HEND.out R hQ.out.srt (hQ.out.past (hM.out.none_ hM0).2))
          have hLI := Lib.hid (ownsRow_lies ho2.out)
          have hBF := Lib.hid (hB2.trans (hbw2.mono hB2.size))
          clear HEND hQ hM HID HWL HL1 HL2 HSD
          go_wp2
          go_ret
          exact ⟨R, A', c', HA.out, by omega, rfl, hLI.out, hBF.out⟩
        · have hMx : (∃ r ∈ d, sayB G r = true ∧ r.id = M) ∧ I ≤ M := ⟨(hM.out.some_ (by omega)).1, (hM.out.some_ (by omega)).2.1⟩
          have hMb : M ≤ 1000000 := by obtain ⟨⟨r, hr, _, e⟩, _⟩ := hMx; have := (HID.out r hr).2; omega
          have hMI := hMx.2
          have HN := Lib.hid (hQ.out.next hM.out (by omega))
          have HNL := HN.out.len
          have hbase : w2.heap.size ≤ wr.heap.size := hbw2.size
          clear HEND hM hMx HID HWL HL1 HL2 HSD hQ hbv ho
          go_wp2_with (at_builtin; refine wpList_append1g (P := Tryz.prog) rfl (.tmp 84) (.tmp 86) 42 rfl w2.heap.size 3 (.int .i64 0) 1 8 Tryz.underlying42 info3 (by decide) (by decide) (.slice A' R.length c') R.length (ints R) rfl (ho2.out.alloc _) wr.heap.size #[.int .i64 M] 3 rfl (Bk.new _ _ _) rfl ?c1 ?c2 (by decide) ?c3 ?_)
          case c1 => rfl
          case c2 => omega
          case c3 => first | omega | (simp; omega)
          intro v4 w4 ho4 hg4
          have hgr : ∀ j, (Value.slice A' R.length c').ownBlock = some j → w2.heap.size ≤ j := fun j hj => (ho2.out.lt j hj).1
          have hb4 : Below w2.heap.size w2 w4 := (hbw2.alloc hbase _).grown hg4 (by simp; omega) hgr
          have hsn : ints R ++ (#[Value.int .i64 M] : Array Value).toList = ints (R ++ [M]) := by simp [ints]
          rw [hsn] at ho4
          obtain ⟨A4, c4, rfl, _, _⟩ := ownsSlice ho4
          have hll : (R ++ [M]).length = R.length + 1 := by simp
          have ho5 : Hid (w4.ownsRow w2.heap.size 3 1 (.slice A4 (R ++ [M]).length c4) (R ++ [M]).length (ints (R ++ [M]))) := by rw [hll]; exact Lib.hid ho4
          clear ho4 hg4 hgr hsn ho2 hbw2
          go_wp2
          go_roundw
          case rel => exact ⟨R ++ [M], A4, c4, M + 1, by rw [hll], by go_num, by omega, HN, ho5, HNL, hb4⟩
          case measure => simp [intOf]; omega
end Go.Proofs.YtkfeagokmcakgaaGreatDoor
