/- The reference's sorted, Groups (fns 91, 42). Printed by gen_n6.py. -/
import Derived.Sort.Walk0
import Derived.Lib.SplitLaws
import Derived.Lib.AtoiTie
import Derived.Test.YtkfeagokmcakgaaGreatDoorG02
import Derived.Test.YtkfeagokmcakgaaGreatDoorG14
import Derived.Test.YtkfeagokmcakgaaGreatDoorG61
import Derived.Test.YtkfeagokmcakgaaGreatDoorG62
import Derived.Test.YtkfeagokmcakgaaGreatDoorG63

set_option linter.unusedVariables false
set_option linter.unusedSimpArgs false

namespace Go.Proofs.YtkfeagokmcakgaaGreatDoor
open Go.RowKit

theorem toL (s : ByteArray) : s.toList = byB s := by rw [ByteArray.toList_eq]; rfl
theorem lt_eq (s t : ByteArray) : Op.bytesLess s.toList t.toList = decide (byB s < byB t) := by rw [toL, toL]; exact Go.Proofs.bytesLess_eq _ _
/-- out holds the names of M once each, in ascending order -/
structure SrtS (out M : List ByteArray) : Prop where
  srt : out.Pairwise fun a b => byB a ≤ byB b
  nd : out.Nodup
  mem : ∀ z, z ∈ out ↔ z ∈ M
theorem SrtS.nil : SrtS [] [] := ⟨List.Pairwise.nil, List.nodup_nil, fun _ => Iff.rfl⟩
theorem SrtS.skip {out M : List ByteArray} {s : ByteArray} (h : SrtS out M) (hs : s ∈ out) : SrtS out (M ++ [s]) := ⟨h.srt, h.nd, fun z => by
  rw [h.mem z, List.mem_append, List.mem_singleton]
  constructor
  · exact .inl
  · rintro (h1 | rfl)
    · exact h1
    · exact (h.mem _).1 hs⟩
theorem SrtS.ins {out M nx : List ByteArray} {s : ByteArray} (h : SrtS out M) (hs : s ∉ out) (h1 : nx.Pairwise fun a b => byB a ≤ byB b) (h2 : nx.Perm (s :: out)) : SrtS nx (M ++ [s]) :=
  ⟨h1, h2.nodup_iff.2 (List.nodup_cons.2 ⟨hs, h.nd⟩), fun z => by
    rw [h2.mem_iff, List.mem_cons, h.mem z, List.mem_append, List.mem_singleton]
    exact Or.comm⟩
theorem srtS_of {R M : List ByteArray} {p : ByteArray → Bool} (h : SrtS R M) (hm : ∀ s, s ∈ M ↔ (s.size ≤ maxLen ∧ p s = true)) : SrtOf R p := ⟨h.srt, h.nd, fun s => (h.mem s).trans (hm s)⟩
/-- where a name is being put among others -/
structure InsQ (s : ByteArray) (out : List ByteArray) (k : Nat) (nx : List ByteArray) (d : Bool) : Prop where
  no : d = false → nx = out.take k ∧ ∀ o ∈ out.take k, byB o ≤ byB s
  ys : d = true → (nx ++ out.drop k).Pairwise (fun a b => byB a ≤ byB b) ∧ (nx ++ out.drop k).Perm (s :: out)
theorem InsQ.start (s : ByteArray) (out : List ByteArray) : InsQ s out 0 [] false := ⟨fun _ => ⟨rfl, fun o ho => by simp at ho⟩, fun h => by cases h⟩
theorem InsQ.later {s : ByteArray} {out nx : List ByteArray} {k : Nat} (h : InsQ s out k nx false) (hk : k < out.length) (hlt : ¬ byB s < byB out[k]) : InsQ s out (k + 1) (nx ++ [out[k]]) false := by
  obtain ⟨rfl, h2⟩ := h.no rfl
  refine ⟨fun _ => ⟨List.take_append_getElem hk, fun o ho => ?_⟩, fun h => by cases h⟩
  rw [← List.take_append_getElem hk, List.mem_append, List.mem_singleton] at ho
  rcases ho with h1 | rfl
  · exact h2 o h1
  · exact List.not_lt.1 hlt
theorem InsQ.now {s : ByteArray} {out nx : List ByteArray} {k : Nat} (h : InsQ s out k nx false) (hsrt : out.Pairwise fun a b => byB a ≤ byB b) (hk : k < out.length) (hlt : byB s < byB out[k]) : InsQ s out (k + 1) ((nx ++ [s]) ++ [out[k]]) true := by
  obtain ⟨rfl, h2⟩ := h.no rfl
  have hd : ((out.take k ++ [s]) ++ [out[k]]) ++ out.drop (k + 1) = out.take k ++ (s :: out.drop k) := by
    rw [List.drop_eq_getElem_cons hk]; simp
  have hsp : (out.take k ++ out.drop k).Pairwise fun a b => byB a ≤ byB b := by rw [List.take_append_drop]; exact hsrt
  have hsk : ∀ o ∈ out.drop k, byB s ≤ byB o := fun o ho => by
    rw [List.drop_eq_getElem_cons hk] at ho
    rcases List.mem_cons.1 ho with rfl | h1
    · exact List.le_of_lt hlt
    · have := (List.pairwise_append.1 hsp).2.1
      rw [List.drop_eq_getElem_cons hk, List.pairwise_cons] at this
      exact List.le_trans (List.le_of_lt hlt) (this.1 o h1)
  refine ⟨fun h => (by cases h), fun _ => ?_⟩
  rw [hd]
  constructor
  · rw [List.pairwise_append]
    obtain ⟨p1, p2, p3⟩ := List.pairwise_append.1 hsp
    refine ⟨p1, List.pairwise_cons.2 ⟨hsk, p2⟩, fun a ha b hb => ?_⟩
    rcases List.mem_cons.1 hb with rfl | h1
    · exact h2 a ha
    · exact p3 a ha b h1
  · have := List.perm_middle (a := s) (l₁ := out.take k) (l₂ := out.drop k)
    rw [List.take_append_drop] at this
    exact this
theorem InsQ.done {s : ByteArray} {out nx : List ByteArray} {k : Nat} (h : InsQ s out k nx true) (hk : k < out.length) : InsQ s out (k + 1) (nx ++ [out[k]]) true := by
  refine ⟨fun h => (by cases h), fun _ => ?_⟩
  have := h.ys rfl
  rw [List.drop_eq_getElem_cons hk] at this
  simpa using this
theorem InsQ.endT {s : ByteArray} {out nx : List ByteArray} (h : InsQ s out out.length nx true) : nx.Pairwise (fun a b => byB a ≤ byB b) ∧ nx.Perm (s :: out) := by
  have := h.ys rfl
  rw [List.drop_length, List.append_nil] at this
  exact this
theorem InsQ.endF {s : ByteArray} {out nx : List ByteArray} (h : InsQ s out out.length nx false) (hsrt : out.Pairwise fun a b => byB a ≤ byB b) : (nx ++ [s]).Pairwise (fun a b => byB a ≤ byB b) ∧ (nx ++ [s]).Perm (s :: out) := by
  obtain ⟨rfl, h2⟩ := h.no rfl
  rw [List.take_length] at h2 ⊢
  refine ⟨?_, List.perm_append_singleton _ _⟩
  rw [List.pairwise_append]
  exact ⟨hsrt, by simp, fun a ha b hb => by simp at hb; subst hb; exact h2 a ha⟩
set_option maxHeartbeats 6000000 in
set_option maxRecDepth 100000 in
theorem rsorted_any (L : List ByteArray) (A : Option Addr) (c : Nat) (w : World) (hl : Lies w w.heap.size A (strsC L)) (hm : L.length ≤ 1001) :
    Calls Tryz.prog 91 #[.slice A L.length c] w (fun e w' => ∃ R A' c', SrtS R L ∧ R.length ≤ 10000 ∧ e = .returned (.slice A' R.length c') ∧ Lies w' w'.heap.size A' (strsC R) ∧ (R.length ≤ c' ∧ c' ≤ maxLen) ∧ Below w.heap.size w w') := by
  have HLW : Hid (∀ V, Below w.heap.size w V → Lies V V.heap.size A (strsC L)) := fun V hV => lies_on hl hV
  have HT0 : Hid (SrtS [] (L.take 0)) := SrtS.nil
  have HTE : Hid (L.take L.length = L) := List.take_length
  have hl0 : Hid (Lies w w.heap.size none (strsC [])) := fun h => absurd rfl h
  clear hl
  go_enter Tryz.func91, Tryz.ntmps91
  go_upto_region 3 with fail
  go_loopw [3, 4] (fun v y wr => ∃ (i : Nat) (out : List ByteArray) (A' : Option Addr) (c' : Nat), i ≤ L.length ∧ v = .slice A' out.length c' ∧ y = .int .i64 i ∧ Hid (SrtS out (L.take i)) ∧ Hid (Lies wr wr.heap.size A' (strsC out)) ∧ Hid (out.length ≤ c' ∧ c' ≤ maxLen) ∧ out.length ≤ i ∧ Below w.heap.size w wr) (fun _ y _ => L.length - (intOf y).toNat)
  case atStart => exact ⟨0, [], none, 0, by omega, rfl, rfl, HT0, hl0, ⟨Nat.le_refl _, Nat.zero_le _⟩, Nat.le_refl _, Below.refl _ _⟩
  case round =>
    obtain ⟨i, out, A1, c1, hi, rfl, rfl, hS, hL1, hc1, hoi, hbw⟩ := hrel
    clear HT0 hl0
    by_cases hlt : i < L.length
    · obtain ⟨ad, rfl, _, x0⟩ := str_at (HLW.out wr hbw) hlt
      have HX : Hid (∀ V, Below w.heap.size w V → V.cell? (ad.add i) = some (.string L[i])) := fun V hV => by
        obtain ⟨a2, e2, _, h2⟩ := str_at (HLW.out V hV) hlt
        cases e2
        exact h2
      have HSK : Hid (L[i] ∈ out → SrtS out (L.take (i + 1))) := fun h => by rw [← List.take_append_getElem hlt]; exact hS.out.skip h
      have HIN : Hid (∀ nx : List ByteArray, L[i] ∉ out → nx.Pairwise (fun a b => byB a ≤ byB b) → nx.Perm (L[i] :: out) → SrtS nx (L.take (i + 1))) := fun nx h h1 h2 => by rw [← List.take_append_getElem hlt]; exact hS.out.ins h h1 h2
      have HSR := Lib.hid hS.out.srt
      have HH := Lib.hid (rhas_any out A1 c1 L[i] wr hL1.out (by unfold maxLen; omega))
      generalize L[i] = s at *
      clear hS HLW HTE
      by_cases hs : s ∈ out
      · rw [decide_eq_true hs] at HH
        have HN := Lib.hid (HSK.out hs)
        clear HSK HIN hs
        go_wp2_with (first | (go_at_call 77; refine HH.out.mono ?_; rintro e u ⟨rfl, hb⟩))
        have hL2 := Lib.hid (lies_on hL1.out hb)
        have hbw2 : Below w.heap.size w u := hbw.trans (hb.mono hbw.size)
        clear hb hL1 hbw
        go_roundw
        case rel => exact ⟨i + 1, out, A1, c1, by omega, rfl, by go_num, HN, hL2, hc1, by omega, hbw2⟩
        case measure => simp [intOf]; omega
      rw [decide_eq_false hs] at HH
      have HIN := Lib.hid (fun nx h1 h2 => HIN.out nx hs h1 h2)
      go_upto_region 9 with (first | (go_at_call 77; refine HH.out.mono ?_; rintro e u ⟨rfl, hb⟩))
      have HLO : Hid (∀ V, Below u.heap.size u V → Lies V V.heap.size A1 (strsC out)) := fun V hV => lies_on (lies_on hL1.out hb) hV
      have hbu : Below w.heap.size w u := hbw.trans (hb.mono hbw.size)
      have HX2 : Hid (∀ V, Below u.heap.size u V → V.cell? (ad.add i) = some (.string s)) := fun V hV => HX.out V (hbu.trans (hV.mono hbu.size))
      have HI0 := Lib.hid (InsQ.start s out)
      have hbuu : Below u.heap.size u u := Below.refl _ _
      clear HSK hs hL1 hb hbw HX HH x0
      go_loopw [5, 6, 7] (fun v d z wr => ∃ (k : Nat) (nx : List ByteArray) (Ax : Option Addr) (cx : Nat) (db : Bool), k ≤ out.length ∧ v = .slice Ax nx.length cx ∧ d = .bool db ∧ z = .int .i64 k ∧ Hid (InsQ s out k nx db) ∧ Hid (wr.ownsRow u.heap.size 9 1 (.slice Ax nx.length cx) nx.length (strsC nx)) ∧ nx.length ≤ k + 1 ∧ Below u.heap.size u wr) (fun _ _ z _ => out.length - (intOf z).toNat)
      case atStart => exact ⟨0, [], none, 0, false, by omega, rfl, rfl, rfl, HI0, World.ownsRow_nil _ _ _ _, by simp, hbuu⟩
      case round =>
        obtain ⟨k, nx, Ax, cx, db, hk, rfl, rfl, rfl, hQ, ho, hnx, hbv⟩ := hrel
        clear HI0 hbuu
        have z0 := HX2.out wr hbv
        by_cases hkl : k < out.length
        · obtain ⟨ao, rfl, _, z1⟩ := str_at (HLO.out wr hbv) hkl
          have HZ : Hid (∀ V, Below u.heap.size u V → V.cell? (ad.add i) = some (.string s) ∧ V.cell? (ao.add k) = some (.string out[k])) := fun V hV => by
            obtain ⟨a2, e2, _, h2⟩ := str_at (HLO.out V hV) hkl
            cases e2
            exact ⟨HX2.out V hV, h2⟩
          have HQL := Lib.hid (fun (h : InsQ s out k nx false) h2 => h.later hkl h2)
          have HQN := Lib.hid (fun (h : InsQ s out k nx false) h2 => h.now HSR.out hkl h2)
          have HQD := Lib.hid (fun (h : InsQ s out k nx true) => h.done hkl)
          have hLT := lt_eq s out[k]
          generalize out[k] = o at *
          cases db
          · have hnk : nx.length ≤ k := by rw [(hQ.out.no rfl).1, List.length_take]; omega
            have HQL := Lib.hid (fun h2 => HQL.out hQ.out h2)
            have HQN := Lib.hid (fun h2 => HQN.out hQ.out h2)
            clear HQD hQ
            by_cases hc : byB s < byB o
            · have HN := Lib.hid (HQN.out hc)
              rw [decide_eq_true hc] at hLT
              clear HQL HQN hc
              go_upto_region 11 with fail
              refine wp_region_held_drew (S := fun V => V.cell? (ad.add i) = some (.string s) ∧ V.cell? (ao.add k) = some (.string o)) (by kernel_rfl) ?_ (fun hHeld => ?_)
              · exact HZ.out _ hbv.drew
              refine tk 0 26 ?_
              refine tk 1 27 ?_
              refine tk 2 28 ?_
              refine tk 3 29 ?_
              refine tk 4 30 ?_
              refine tk 5 31 ?_
              refine tk 6 32 ?_
              refine tk 7 33 ?_
              refine tk 8 34 ?_
              refine tk 9 35 ?_
              refine tk 10 36 ?_
              refine tk 11 37 ?_
              refine tk 12 38 ?_
              refine wpAnyH_done (by kernel_rfl) ?_ _
              have hbd : Below u.heap.size u wr.drew := hbv.drew
              have hod := Lib.hid (show wr.drew.ownsRow u.heap.size 9 1 (.slice Ax nx.length cx) nx.length (strsC nx) from ho.out)
              obtain ⟨y0, y1⟩ := HZ.out _ hbd
              clear ho hbv hHeld z0 z1
              generalize wr.drew = wd at *
              have hsz3 := hbd.size
              go_upto_region 13 with (at_builtin; refine wpList_append1g (P := Tryz.prog) rfl (.tmp 39) (.tmp 44) 34 rfl u.heap.size 9 (.string ByteArray.empty) 1 16 Tryz.underlying34 info9 (by decide) (by decide) (.slice Ax nx.length cx) nx.length (strsC nx) rfl (hod.out.alloc _) wd.heap.size #[.string s] 9 rfl (Bk.new _ _ _) rfl ?c1 ?c2 (by decide) ?c3 ?_)
              case c1 => rfl
              case c2 => omega
              case c3 => first | omega | (simp; omega)
              intro v3 w3 ho3 hg3
              have hgr3 : ∀ j, (Value.slice Ax nx.length cx).ownBlock = some j → u.heap.size ≤ j := fun j hj => (hod.out.lt j hj).1
              have hb3 : Below u.heap.size u w3 := (hbd.alloc hsz3 _).grown hg3 (by simp; omega) hgr3
              have hsn3 : strsC nx ++ (#[Value.string s] : Array Value).toList = strsC (nx ++ [s]) := by simp [strsC]
              rw [hsn3] at ho3
              obtain ⟨A3, c3, rfl, hca3, hcb3⟩ := ownsSlice ho3
              have hO3 := Lib.hid ho3
              obtain ⟨y03, y13⟩ := HZ.out _ hb3
              clear ho3 hg3 hgr3 hsn3 hod hbd
              go_upto_region 14 with fail
              have hsz4 := hb3.size
              go_wp2_with (at_builtin; refine wpList_append1g (P := Tryz.prog) rfl (.tmp 46) (.tmp 51) 34 rfl u.heap.size 9 (.string ByteArray.empty) 1 16 Tryz.underlying34 info9 (by decide) (by decide) (.slice A3 (nx.length + 1) c3) (nx.length + 1) (strsC (nx ++ [s])) rfl (hO3.out.alloc _) w3.heap.size #[.string o] 9 rfl (Bk.new _ _ _) rfl ?c1 ?c2 (by decide) ?c3 ?_)
              case c1 => rfl
              case c2 => omega
              case c3 => first | omega | (simp; omega)
              intro v4 w4 ho4 hg4
              have hgr4 : ∀ j, (Value.slice A3 (nx.length + 1) c3).ownBlock = some j → u.heap.size ≤ j := fun j hj => (hO3.out.lt j hj).1
              have hb4 : Below u.heap.size u w4 := (hb3.alloc hsz4 _).grown hg4 (by simp; omega) hgr4
              have hsn4 : strsC (nx ++ [s]) ++ (#[Value.string o] : Array Value).toList = strsC ((nx ++ [s]) ++ [o]) := by simp [strsC]
              rw [hsn4] at ho4
              obtain ⟨A4, c4, rfl, hca4, hcb4⟩ := ownsSlice ho4
              have hO4 := Lib.hid ho4
              obtain ⟨y04, y14⟩ := HZ.out _ hb4
              clear ho4 hg4 hgr4 hsn4 hO3 hb3
              have hll : ((nx ++ [s]) ++ [o]).length = nx.length + 1 + 1 := by simp
              have hOO : Hid (w4.ownsRow u.heap.size 9 1 (.slice A4 ((nx ++ [s]) ++ [o]).length c4) ((nx ++ [s]) ++ [o]).length (strsC ((nx ++ [s]) ++ [o]))) := by rw [hll]; exact hO4
              go_wp2
              go_roundw
              case rel => exact ⟨k + 1, (nx ++ [s]) ++ [o], A4, c4, true, by omega, by rw [hll], rfl, by go_num, HN, hOO, by rw [hll]; omega, hb4⟩
              case measure => simp [intOf]; omega
            · have HN := Lib.hid (HQL.out hc)
              rw [decide_eq_false hc] at hLT
              clear HQL HQN hc
              go_upto_region 11 with fail
              refine wp_region_held_drew (S := fun V => V.cell? (ad.add i) = some (.string s) ∧ V.cell? (ao.add k) = some (.string o)) (by kernel_rfl) ?_ (fun hHeld => ?_)
              · exact HZ.out _ hbv.drew
              refine tk 0 26 ?_
              refine tk 1 27 ?_
              refine tk 2 28 ?_
              refine tk 3 29 ?_
              refine tk 4 30 ?_
              refine tk 5 31 ?_
              refine tk 6 32 ?_
              refine tk 7 33 ?_
              refine tk 8 34 ?_
              refine tk 9 35 ?_
              refine tk 10 36 ?_
              refine tk 11 37 ?_
              refine tk 12 38 ?_
              refine wpAnyH_done (by kernel_rfl) ?_ _
              have hbd : Below u.heap.size u wr.drew := hbv.drew
              have hod := Lib.hid (show wr.drew.ownsRow u.heap.size 9 1 (.slice Ax nx.length cx) nx.length (strsC nx) from ho.out)
              obtain ⟨y0, y1⟩ := HZ.out _ hbd
              clear ho hbv hHeld z0 z1
              generalize wr.drew = wd at *
              have hsz4 := hbd.size
              go_wp2_with (at_builtin; refine wpList_append1g (P := Tryz.prog) rfl (.tmp 46) (.tmp 51) 34 rfl u.heap.size 9 (.string ByteArray.empty) 1 16 Tryz.underlying34 info9 (by decide) (by decide) (.slice Ax nx.length cx) nx.length (strsC nx) rfl (hod.out.alloc _) wd.heap.size #[.string o] 9 rfl (Bk.new _ _ _) rfl ?c1 ?c2 (by decide) ?c3 ?_)
              case c1 => rfl
              case c2 => omega
              case c3 => first | omega | (simp; omega)
              intro v4 w4 ho4 hg4
              have hgr4 : ∀ j, (Value.slice Ax nx.length cx).ownBlock = some j → u.heap.size ≤ j := fun j hj => (hod.out.lt j hj).1
              have hb4 : Below u.heap.size u w4 := (hbd.alloc hsz4 _).grown hg4 (by simp; omega) hgr4
              have hsn4 : strsC nx ++ (#[Value.string o] : Array Value).toList = strsC (nx ++ [o]) := by simp [strsC]
              rw [hsn4] at ho4
              obtain ⟨A4, c4, rfl, hca4, hcb4⟩ := ownsSlice ho4
              have hO4 := Lib.hid ho4
              obtain ⟨y04, y14⟩ := HZ.out _ hb4
              clear ho4 hg4 hgr4 hsn4 hod hbd
              have hll : (nx ++ [o]).length = nx.length + 1 := by simp
              have hOO : Hid (w4.ownsRow u.heap.size 9 1 (.slice A4 (nx ++ [o]).length c4) (nx ++ [o]).length (strsC (nx ++ [o]))) := by rw [hll]; exact hO4
              go_wp2
              go_roundw
              case rel => exact ⟨k + 1, nx ++ [o], A4, c4, false, by omega, by rw [hll], rfl, by go_num, HN, hOO, by rw [hll]; omega, hb4⟩
              case measure => simp [intOf]; omega
          · have HN := Lib.hid (HQD.out hQ.out)
            clear HQL HQN HQD hQ hLT
            go_upto_region 11 with fail
            refine wp_region_held_drew (S := fun V => V.cell? (ad.add i) = some (.string s) ∧ V.cell? (ao.add k) = some (.string o)) (by kernel_rfl) ?_ (fun hHeld => ?_)
            · exact HZ.out _ hbv.drew
            refine tk 0 26 ?_
            refine tk 1 27 ?_
            refine tk 2 28 ?_
            refine sk 3 29 ?_
            refine sk 4 30 ?_
            refine sk 5 31 ?_
            refine sk 6 32 ?_
            refine sk 7 33 ?_
            refine sk 8 34 ?_
            refine sk 9 35 ?_
            refine sk 10 36 ?_
            refine sk 11 37 ?_
            refine tk 12 38 ?_
            refine wpAnyH_done (by kernel_rfl) ?_ _
            have hbd : Below u.heap.size u wr.drew := hbv.drew
            have hod := Lib.hid (show wr.drew.ownsRow u.heap.size 9 1 (.slice Ax nx.length cx) nx.length (strsC nx) from ho.out)
            obtain ⟨y0, y1⟩ := HZ.out _ hbd
            clear ho hbv hHeld z0 z1
            generalize wr.drew = wd at *
            have hsz4 := hbd.size
            go_wp2_with (at_builtin; refine wpList_append1g (P := Tryz.prog) rfl (.tmp 46) (.tmp 51) 34 rfl u.heap.size 9 (.string ByteArray.empty) 1 16 Tryz.underlying34 info9 (by decide) (by decide) (.slice Ax nx.length cx) nx.length (strsC nx) rfl (hod.out.alloc _) wd.heap.size #[.string o] 9 rfl (Bk.new _ _ _) rfl ?c1 ?c2 (by decide) ?c3 ?_)
            case c1 => rfl
            case c2 => omega
            case c3 => first | omega | (simp; omega)
            intro v4 w4 ho4 hg4
            have hgr4 : ∀ j, (Value.slice Ax nx.length cx).ownBlock = some j → u.heap.size ≤ j := fun j hj => (hod.out.lt j hj).1
            have hb4 : Below u.heap.size u w4 := (hbd.alloc hsz4 _).grown hg4 (by simp; omega) hgr4
            have hsn4 : strsC nx ++ (#[Value.string o] : Array Value).toList = strsC (nx ++ [o]) := by simp [strsC]
            rw [hsn4] at ho4
            obtain ⟨A4, c4, rfl, hca4, hcb4⟩ := ownsSlice ho4
            have hO4 := Lib.hid ho4
            obtain ⟨y04, y14⟩ := HZ.out _ hb4
            clear ho4 hg4 hgr4 hsn4 hod hbd
            have hll : (nx ++ [o]).length = nx.length + 1 := by simp
            have hOO : Hid (w4.ownsRow u.heap.size 9 1 (.slice A4 (nx ++ [o]).length c4) (nx ++ [o]).length (strsC (nx ++ [o]))) := by rw [hll]; exact hO4
            go_wp2
            go_roundw
            case rel => exact ⟨k + 1, nx ++ [o], A4, c4, true, by omega, by rw [hll], rfl, by go_num, HN, hOO, by rw [hll]; omega, hb4⟩
            case measure => simp [intOf]; omega
        · obtain rfl : k = out.length := by omega
          cases db
          · obtain ⟨hp1, hp2⟩ := hQ.out.endF HSR.out
            have HN := Lib.hid (HIN.out _ hp1 hp2)
            have HNL : Hid (nx.length ≤ out.length) := by show _ ≤ _; rw [(hQ.out.no rfl).1]; simp
            clear hp1 hp2 hQ HIN HSR HX2
            have hbd := hbv
            have hod := ho
            have HZ := HLO
            have hsz4 := hbd.size
            go_wp2_with (at_builtin; refine wpList_append1g (P := Tryz.prog) rfl (.tmp 55) (.tmp 60) 34 rfl u.heap.size 9 (.string ByteArray.empty) 1 16 Tryz.underlying34 info9 (by decide) (by decide) (.slice Ax nx.length cx) nx.length (strsC nx) rfl (hod.out.alloc _) wr.heap.size #[.string s] 9 rfl (Bk.new _ _ _) rfl ?c1 ?c2 (by decide) ?c3 ?_)
            case c1 => rfl
            case c2 => omega
            case c3 => first | omega | (simp; omega)
            intro v4 w4 ho4 hg4
            have hgr4 : ∀ j, (Value.slice Ax nx.length cx).ownBlock = some j → u.heap.size ≤ j := fun j hj => (hod.out.lt j hj).1
            have hb4 : Below u.heap.size u w4 := (hbd.alloc hsz4 _).grown hg4 (by simp; omega) hgr4
            have hsn4 : strsC nx ++ (#[Value.string s] : Array Value).toList = strsC (nx ++ [s]) := by simp [strsC]
            rw [hsn4] at ho4
            obtain ⟨A4, c4, rfl, hca4, hcb4⟩ := ownsSlice ho4
            have hO4 := Lib.hid ho4
            clear HZ ho4 hg4 hgr4 hsn4 hod hbd
            have hll : (nx ++ [s]).length = nx.length + 1 := by simp
            have hLL := Lib.hid (ownsRow_lies hO4.out)
            have hcc : Hid (nx.length + 1 ≤ c4 ∧ c4 ≤ maxLen) := ⟨hca4, hcb4⟩
            have hbF : Below w.heap.size w w4 := hbu.trans (hb4.mono hbu.size)
            have hle : nx.length + 1 ≤ i + 1 := by have h := HNL.out; omega
            go_wp2
            go_roundw
            case rel => exact ⟨i + 1, nx ++ [s], A4, c4, by omega, by rw [hll], by go_num, HN, hLL, by rw [hll]; exact hcc, by rw [hll]; exact hle, hbF⟩
            case measure => simp [intOf]; omega
          · obtain ⟨hp1, hp2⟩ := hQ.out.endT
            have HN := Lib.hid (HIN.out _ hp1 hp2)
            clear hp1 hp2 hQ HIN HSR HX2
            have hLL := Lib.hid (ownsRow_lies ho.out)
            have hcap := ownsSlice ho.out
            have hcc : Hid (nx.length ≤ cx ∧ cx ≤ maxLen) := by obtain ⟨A9, c9, e9, h1, h2⟩ := hcap; cases e9; exact ⟨h1, h2⟩
            have hbF : Below w.heap.size w wr := hbu.trans (hbv.mono hbu.size)
            clear hcap
            go_wp2
            go_roundw
            case rel => exact ⟨i + 1, nx, Ax, cx, by omega, rfl, by go_num, HN, hLL, hcc, by omega, hbF⟩
            case measure => simp [intOf]; omega
    · obtain rfl : i = L.length := by omega
      rw [HTE.out] at hS
      have hc := hc1.out
      clear HTE HLW
      go_wp2
      go_ret
      exact ⟨out, A1, c1, hS.out, by omega, rfl, hL1.out, hc, hbw⟩
set_option maxHeartbeats 2000000 in
set_option maxRecDepth 100000 in
theorem rGroups_any (l : List Rul) (A : Option Addr) (c : Nat) (known : Int) (x : ByteArray) (w : World) (hl : Lies w w.heap.size A (rulesC l)) (hok : RulOK l) (hm : l.length ≤ 1000) (hxs : x.size ≤ 100) :
    Calls Tryz.prog 42 #[.agg #[.slice A l.length c], .int .i64 known, .string x] w (GpE (inG (cntL l known) x) w) := by
  have HC : Hid (∀ W, Below w.heap.size w W → Calls Tryz.prog 39 #[.agg #[.slice A l.length c], .int .i64 known] W (SlE (cntL l known) W)) := fun W hb => rcounting_any l A c known W ((hl.below hb (Nat.le_refl _)).more hb.size) hok hm
  have HG := Lib.hid (fun A' c' W hL => rgroups_any (cntL l known) A' c' x W hL (Nat.le_trans (cnt_len l known) hm))
  have hgl := grps_len (cntL l known) x
  have hcl := Nat.le_trans (cnt_len l known) hm
  have HSO := Lib.hid (fun A' c' W hL => rsorted_any (grps (cntL l known) x) A' c' W hL (by omega))
  have HMM : Hid (∀ s, s ∈ grps (cntL l known) x ↔ (s.size ≤ maxLen ∧ inG (cntL l known) x s = true)) := fun s => by
    rw [inG_iff, grps_iff]
    constructor
    · intro h
      refine ⟨?_, h⟩
      have h100 : s.size ≤ 100 := Reach.inv (P := fun z => z.size ≤ 100) h hxs (by
        rintro a b _ ⟨r, hr, _, _, rfl⟩
        exact (hok r (cnt_sub l known r hr)).2.1)
      unfold maxLen; omega
    · exact fun h => h.2
  generalize grps (cntL l known) x = G at *
  clear hl hok
  go_enter Tryz.func42, Tryz.ntmps42
  go_wp2_with (first | (go_at_call 39; refine (HC.out _ (by repeat (first | with_reducible exact Below.refl _ _ | with_reducible assumption | with_reducible refine Below.drew ?_ | with_reducible refine below_drewN ?_ _ | (with_reducible refine Below.alloc ?_ ?_ _; rotate_left; (try simp) <;> omega) | (with_reducible refine Below.setCell ?_ ?_ _; rotate_left; (try simp) <;> omega)))).mono ?_; rintro e w1 ⟨A1, c1, rfl, hl1, _, hb1⟩; have hB1 : Below w.heap.size w w1 := Below.trans (by repeat (first | with_reducible exact Below.refl _ _ | with_reducible assumption | with_reducible refine Below.drew ?_ | with_reducible refine below_drewN ?_ _ | (with_reducible refine Below.alloc ?_ ?_ _; rotate_left; (try simp) <;> omega) | (with_reducible refine Below.setCell ?_ ?_ _; rotate_left; (try simp) <;> omega))) (hb1.mono (by simp))) | (go_at_call 76; refine (HG.out _ _ _ hl1).mono ?_; rintro e w2 ⟨A2, c2, rfl, hl2, _, hb2⟩; have hB2 : Below w.heap.size w w2 := hB1.trans (hb2.mono hB1.size)) | (go_at_call 91; refine (HSO.out _ _ _ hl2).mono ?_; rintro e w3 ⟨R, A3, c3, hR, hRl, rfl, hL3, hc3, hb3⟩))
  have HR := Lib.hid (srtS_of hR HMM.out)
  have HLI := Lib.hid hL3
  clear hR hL3
  go_ret
  exact ⟨R, A3, c3, HR.out, hRl, rfl, HLI.out, hc3, hB2.trans (hb3.mono hB2.size)⟩
end Go.Proofs.YtkfeagokmcakgaaGreatDoor

namespace Go.Proofs.YtkfeagokmcakgaaGreatDoor
open Go.RowKit

theorem index_miss {c : UInt8} : ∀ w : List UInt8, c ∉ w → Lib.index w [c] = -1
  | [], _ => by simp [Lib.index]
  | b :: l, h => by
    have hb : c ≠ b := fun e => h (by simp [e])
    have hp : ([c] : List UInt8).isPrefixOf (b :: l) = false := by simp [List.isPrefixOf, hb]
    rw [Lib.index, hp, index_miss l (fun hm => h (List.mem_cons_of_mem _ hm))]; simp
theorem index_hit {c : UInt8} (r : List UInt8) : ∀ w : List UInt8, c ∉ w → Lib.index (w ++ c :: r) [c] = (w.length : Int)
  | [], _ => by simp [Lib.index, List.isPrefixOf]
  | b :: l, h => by
    have hb : c ≠ b := fun e => h (by simp [e])
    have hp : ([c] : List UInt8).isPrefixOf (b :: (l ++ c :: r)) = false := by simp [List.isPrefixOf, hb]
    show Lib.index (b :: (l ++ c :: r)) [c] = _
    rw [Lib.index, hp, index_hit r l (fun hm => h (List.mem_cons_of_mem _ hm))]
    have hn : ¬ ((l.length : Int) == -1) = true := fun e => by have := beq_iff_eq.1 e; omega
    simp only [Bool.false_eq_true, if_false, hn, List.length_cons]
    omega
/-- the parts of a list between the bytes c -/
def spW (c : UInt8) (s : List UInt8) : List (List UInt8) := Lib.splitK [c] 0 (s.count c) s
theorem spW_miss {c : UInt8} {w : List UInt8} (h : c ∉ w) : spW c w = [w] := by
  unfold spW; rw [List.count_eq_zero.2 h]; rfl
theorem spW_hit {c : UInt8} {w : List UInt8} (r : List UInt8) (h : c ∉ w) : spW c (w ++ c :: r) = w :: spW c r := by
  unfold spW
  rw [List.count_append, List.count_eq_zero.2 h, List.count_cons_self, Nat.zero_add, Lib.splitK, index_hit r w h]
  have hn : ¬ ((w.length : Int) == -1) = true := fun e => by have := beq_iff_eq.1 e; omega
  rw [if_neg hn]
  simp
theorem spW_join (c : UInt8) : ∀ (r : List (List UInt8)) (x : List UInt8), (∀ w ∈ x :: r, c ∉ w) → spW c (x ++ Lib.joinTail [c] r) = x :: r
  | [], x, h => by
    rw [show Lib.joinTail [c] [] = [] from rfl, List.append_nil, spW_miss (h x (by simp))]
  | y :: r, x, h => by
    have e : x ++ Lib.joinTail [c] (y :: r) = x ++ c :: (y ++ Lib.joinTail [c] r) := by simp [Lib.joinTail]
    rw [e, spW_hit _ (h x (by simp)), spW_join c r y (fun w hw => h w (List.mem_cons_of_mem _ hw))]
theorem wds_data (line : ByteArray) : (wdsB line).map (·.data.toList) = spW 32 line.data.toList := by
  unfold wdsB spW
  rw [Lib.splitB_data]
  have : Lib.countB line spB = line.data.toList.count 32 := Lib.count_one 32 line.data.toList
  rw [this]; rfl
theorem map_data_inj {a b : List ByteArray} (h : a.map (·.data.toList) = b.map (·.data.toList)) : a = b := by
  induction a generalizing b with
  | nil => cases b with
    | nil => rfl
    | cons _ _ => simp at h
  | cons x a ih => cases b with
    | nil => simp at h
    | cons y b =>
      simp only [List.map_cons, List.cons.injEq] at h
      rw [bytes_inj h.1, ih h.2]
/-! numerals -/
theorem dec_byte {u : Nat} (h : u < 10) : (UInt8.ofNat (48 + u)).toNat = 48 + u := by
  rw [UInt8.toNat_ofNat']; omega
theorem dec_digits (u : Nat) : ∀ b ∈ Lib.decDigits u, 48 ≤ b.toNat ∧ b.toNat ≤ 57 := by
  induction u using Nat.strongRecOn with
  | _ u ih =>
    intro b hb
    rw [Lib.decDigits] at hb
    split at hb
    · rename_i h
      obtain rfl := List.mem_singleton.1 hb; rw [dec_byte h]; omega
    · rename_i h
      rcases List.mem_append.1 hb with hb | hb
      · exact ih (u / 10) (by omega) b hb
      · obtain rfl := List.mem_singleton.1 hb; rw [dec_byte (Nat.mod_lt u (by omega))]; have := Nat.mod_lt u (show 10 > 0 by omega); omega
theorem decFrom_app : ∀ (l m : List UInt8) (acc : Nat), Lib.decFrom acc (l ++ m) = (Lib.decFrom acc l).bind fun a => Lib.decFrom a m
  | [], m, acc => rfl
  | b :: l, m, acc => by
    simp only [List.cons_append, Lib.decFrom]
    cases Lib.digitVal b with
    | none => rfl
    | some d => exact decFrom_app l m _
theorem dec_val (u : Nat) : Lib.decFrom 0 (Lib.decDigits u) = some u := by
  induction u using Nat.strongRecOn with
  | _ u ih =>
    rw [Lib.decDigits]
    split
    · rename_i h
      have hd : Lib.digitVal (UInt8.ofNat (48 + u)) = some u := by
        unfold Lib.digitVal; rw [dec_byte h, if_pos (by omega)]; simp
      simp only [Lib.decFrom, hd]; simp
    · rename_i h
      have hd : Lib.digitVal (UInt8.ofNat (48 + u % 10)) = some (u % 10) := by
        have hm := Nat.mod_lt u (show 10 > 0 by omega)
        unfold Lib.digitVal; rw [dec_byte hm, if_pos (by omega)]; simp
      rw [decFrom_app, ih (u / 10) (by omega)]
      simp only [Option.bind_some, Lib.decFrom, hd]
      congr 1; omega
theorem dec_ne (u : Nat) : Lib.decDigits u ≠ [] := by
  rw [Lib.decDigits]; split <;> simp
theorem nDigits_le : ∀ (k u : Nat), u < 10 ^ (k + 1) → Lib.nDigits u ≤ k + 1
  | 0, u, h => by rw [Lib.nDigits_small (by simpa using h)]; omega
  | k + 1, u, h => by
    by_cases h0 : u < 10
    · rw [Lib.nDigits_small h0]; omega
    · rw [Lib.nDigits_big h0]
      have := nDigits_le k (u / 10) (by rw [Nat.pow_succ] at h; omega)
      omega
theorem dec_len {u : Nat} (h : u ≤ 1000000) : (Lib.decDigits u).length ≤ 7 := by
  rw [Lib.decDigits_length]; exact nDigits_le 6 u (by omega)
theorem itoB_nat (u : Nat) : (itoB (u : Int)).data.toList = Lib.decDigits u := by
  show (Lib.itoa (u : Int)).toArray.toList = _
  rw [List.toList_toArray, Lib.itoa_nonneg]
theorem numB_itoB {n : Int} (h0 : 0 ≤ n) (h1 : n ≤ 1000000) : numB (itoB n) = some n := by
  obtain ⟨u, rfl⟩ := Int.eq_ofNat_of_zero_le h0
  have hu : u ≤ 1000000 := by omega
  have hl := dec_len hu
  have ha : Lib.atoi (Lib.decDigits u) = some (u : Int) := by
    have hd := dec_digits u
    have hv := dec_val u
    cases e : Lib.decDigits u with
    | nil => exact absurd e (dec_ne u)
    | cons b r =>
      rw [e] at hd hv
      have hb := hd b (by simp)
      have h45 : (b == 45) = false := by
        cases h : b == 45 with
        | false => rfl
        | true => have := beq_iff_eq.1 h; subst this; have := hb.1; simp at this
      have h43 : (b == 43) = false := by
        cases h : b == 43 with
        | false => rfl
        | true => have := beq_iff_eq.1 h; subst this; have := hb.1; simp at this
      unfold Lib.atoi
      dsimp only
      rw [h45, h43]
      simp only [Bool.false_eq_true, if_false, Lib.decNat, List.isEmpty_cons, hv, Option.map_some]
  unfold numB
  rw [itoB_nat, Lib.atoiAll_short _ (by omega), ha]
  rfl
theorem itoB_nosp {n : Int} (h0 : 0 ≤ n) {c : UInt8} (hc : c.toNat < 48) : c ∉ (itoB n).data.toList := by
  obtain ⟨u, rfl⟩ := Int.eq_ofNat_of_zero_le h0
  rw [itoB_nat]
  intro h
  have := dec_digits u c h
  omega
theorem name_nosp {s : ByteArray} (h : nameB s = true) {c : UInt8} (hc : c.toNat < 45) : c ∉ s.data.toList := by
  intro hm
  unfold nameB at h
  simp only [Bool.and_eq_true] at h
  have := List.all_eq_true.1 h.2 c hm
  unfold okc at this
  simp only [Bool.and_eq_true, Bool.or_eq_true, decide_eq_true_eq] at this
  omega
/-- what a well-formed rule's fields are -/
theorem frm_cases {r : Rul} (h : frm r = true) : (1 ≤ r.id ∧ r.id ≤ 1000000) ∧ (0 ≤ r.known ∧ r.known ≤ 1000000) ∧
    ((r.kind = 1 ∨ r.kind = 2) ∧ nameB r.x = true ∧ r.y = ⟨#[]⟩ ∧ r.of = 0 ∨ (r.kind = 3 ∨ r.kind = 4 ∨ r.kind = 5) ∧ nameB r.x = true ∧ nameB r.y = true ∧ r.of = 0 ∨ r.kind = 6 ∧ r.x = ⟨#[]⟩ ∧ r.y = ⟨#[]⟩ ∧ 1 ≤ r.of ∧ r.of ≤ 1000000) := by
  have he : ∀ s : ByteArray, s.size = 0 → s = ⟨#[]⟩ := fun s hs => bytes_inj (by
    have : s.data.toList.length = 0 := by rw [Array.length_toList]; exact hs
    rw [List.length_eq_zero_iff.1 this])
  unfold frm shpB at h
  simp only [Bool.and_eq_true, decide_eq_true_eq] at h
  obtain ⟨⟨⟨⟨h1, h2⟩, h3⟩, h4⟩, h5⟩ := h
  refine ⟨⟨h1, h2⟩, ⟨h3, by omega⟩, ?_⟩
  split at h5
  · rename_i hk
    simp only [Bool.and_eq_true, decide_eq_true_eq] at h5
    exact .inl ⟨hk, h5.1.1, he _ h5.1.2, h5.2⟩
  · split at h5
    · rename_i hk
      simp only [Bool.and_eq_true, decide_eq_true_eq] at h5
      exact .inr (.inl ⟨by omega, h5.1.1, h5.1.2, h5.2⟩)
    · split at h5
      · rename_i hk
        simp only [Bool.and_eq_true, decide_eq_true_eq] at h5
        exact .inr (.inl ⟨by omega, h5.1.1.1, h5.1.1.2, h5.1.2⟩)
      · split at h5
        · rename_i hk
          simp only [Bool.and_eq_true, decide_eq_true_eq] at h5
          exact .inr (.inr ⟨hk, he _ h5.1.1.1.1, he _ h5.1.1.1.2, h5.1.1.2, h5.1.2⟩)
        · cases h5
theorem word_nosp (k : Int) : (32 : UInt8) ∉ (wordB k).data.toList ∧ (10 : UInt8) ∉ (wordB k).data.toList := by
  unfold wordB; (repeat' split) <;> decide
theorem words_nosp {r : Rul} (h : frm r = true) {c : UInt8} (hc : c = 32 ∨ c = 10) : ∀ w ∈ wordsB r, c ∉ w.data.toList := by
  obtain ⟨h1, h2, h3⟩ := frm_cases h
  have c1 : c.toNat < 45 := by rcases hc with rfl | rfl <;> decide
  intro w hw
  unfold wordsB at hw
  rcases List.mem_cons.1 hw with rfl | hw
  · exact itoB_nosp (by omega) (by omega)
  rcases List.mem_cons.1 hw with rfl | hw
  · exact itoB_nosp (by omega) (by omega)
  rcases List.mem_cons.1 hw with rfl | hw
  · rcases hc with rfl | rfl
    · exact (word_nosp _).1
    · exact (word_nosp _).2
  unfold tellB at hw
  rcases h3 with ⟨hk, hx, hy, ho⟩ | ⟨hk, hx, hy, ho⟩ | ⟨hk, hx, hy, ho⟩
  · rw [if_pos hk] at hw; simp at hw; subst hw; exact name_nosp hx c1
  · rw [if_neg (by omega), if_neg (by omega)] at hw
    simp at hw
    rcases hw with rfl | rfl
    · exact name_nosp hx c1
    · exact name_nosp hy c1
  · rw [if_neg (by omega), if_pos hk] at hw; simp at hw; subst hw; exact itoB_nosp (by omega) (by omega)
theorem wrB_data {r : Rul} (h : frm r = true) : (wrB r).data.toList = wrL r := by
  unfold wrB; rw [if_pos h]
theorem wrL_join (r : Rul) : wrL r = (itoB r.id).data.toList ++ Lib.joinTail [32] ((itoB r.known :: wordB r.kind :: tellB r).map (·.data.toList)) := by
  unfold wrL wordsB
  rw [List.map_cons, Lib.join_cons]
theorem wds_words {r : Rul} (h : frm r = true) : wdsB (wrB r) = wordsB r := by
  refine map_data_inj ?_
  rw [wds_data, wrB_data h, wrL_join, spW_join]
  · rfl
  · intro w hw
    have hw' : w ∈ (wordsB r).map (·.data.toList) := hw
    obtain ⟨u, hu, rfl⟩ := List.mem_map.1 hw'
    exact words_nosp h (.inl rfl) u hu
theorem rdR_words {line w0 w1 w2 w3 : ByteArray} {l : List ByteArray} {a b : Int} (h : wdsB line = w0 :: w1 :: w2 :: w3 :: l) (ha : numB w0 = some a) (hb : numB w1 = some b) : rdR line = (rdT a b w2 w3 (l.getD 0 ⟨#[]⟩)).bind (rdF line) := by
  unfold rdR; rw [h]; simp only [ha, hb]
theorem kindB_word {k : Int} (h : 1 ≤ k ∧ k ≤ 6) : kindB (wordB k) = k := by
  have : k = 1 ∨ k = 2 ∨ k = 3 ∨ k = 4 ∨ k = 5 ∨ k = 6 := by omega
  rcases this with rfl | rfl | rfl | rfl | rfl | rfl <;> decide +kernel
theorem rdF_wr {r : Rul} (h : frm r = true) : rdF (wrB r) r = some r := by unfold rdF; rw [if_pos ⟨h, rfl⟩]
/-- what is written is read again -/
theorem rdR_wr {r : Rul} (h : frm r = true) : rdR (wrB r) = some r := by
  obtain ⟨h1, h2, h3⟩ := frm_cases h
  have hw := wds_words h
  have hF := rdF_wr h
  have n1 := numB_itoB (n := r.id) (by omega) (by omega)
  have n2 := numB_itoB (n := r.known) (by omega) (by omega)
  have hkw := kindB_word (k := r.kind) (by omega)
  have h0 : r.kind ≠ 0 := by omega
  unfold wordsB tellB at hw
  obtain ⟨id, kn, kd, x, y, of⟩ := r
  dsimp only at *
  rcases h3 with ⟨hk, hx, rfl, rfl⟩ | ⟨hk, hx, hy, rfl⟩ | ⟨rfl, rfl, rfl, ho⟩
  · rw [if_pos hk] at hw
    rw [rdR_words hw n1 n2]
    unfold rdT takR
    rw [hkw, if_neg h0, if_pos hk]
    exact hF
  · rw [if_neg (by omega), if_neg (by omega)] at hw
    rw [rdR_words hw n1 n2]
    unfold rdT takR
    rw [hkw, if_neg h0, if_neg (by omega), if_neg (by omega)]
    exact hF
  · rw [if_neg (by omega), if_pos rfl] at hw
    rw [rdR_words hw n1 n2]
    unfold rdT takR
    rw [hkw, if_neg h0, if_neg (by omega), if_pos rfl, numB_itoB (by omega) ho.2]
    exact hF
theorem rdR_line {line : ByteArray} {r : Rul} (h : rdR line = some r) : frm r = true ∧ wrB r = line := by
  unfold rdR at h
  split at h
  · split at h
    · obtain ⟨q, _, h2⟩ := Option.bind_eq_some_iff.1 h
      unfold rdF at h2
      split at h2
      · rename_i hq; cases h2; exact hq
      · cases h2
    · cases h
  · cases h
/-! the reference's reading -/
def valB (s : ByteArray) : Int := if 1 ≤ s.size ∧ s.size ≤ 7 then (match Lib.decFrom 0 s.data.toList with | some n => (n : Int) | none => -1) else -1
theorem valB_itoB {n : Int} (h0 : 0 ≤ n) (h1 : n ≤ 1000000) : valB (itoB n) = n := by
  obtain ⟨u, rfl⟩ := Int.eq_ofNat_of_zero_le h0
  have hu : u ≤ 1000000 := by omega
  have hl := dec_len hu
  have hs : (itoB (u : Int)).size = (Lib.decDigits u).length := by
    rw [← itoB_nat, Array.length_toList]; rfl
  have hp := List.length_pos_iff.2 (dec_ne u)
  unfold valB
  rw [itoB_nat, dec_val, if_pos (by omega)]
/-- the rule that the words of a line may mean -/
def rrK (a b k : Int) (w3 y : ByteArray) : Rul := if k = 6 then ⟨a, b, 6, ⟨#[]⟩, ⟨#[]⟩, valB w3⟩ else ⟨a, b, k, w3, y, 0⟩
def rrd (line : ByteArray) : Option Rul := match wdsB line with
  | [w0, w1, w2, w3] => rdF line (rrK (valB w0) (valB w1) (kindB w2) w3 ⟨#[]⟩)
  | [w0, w1, w2, w3, w4] => rdF line (rrK (valB w0) (valB w1) (kindB w2) w3 w4)
  | _ => none
theorem rrd_line {line : ByteArray} {r : Rul} (h : rrd line = some r) : frm r = true ∧ wrB r = line := by
  unfold rrd rdF at h
  split at h
  · split at h
    · rename_i hq; cases h; exact hq
    · cases h
  · split at h
    · rename_i hq; cases h; exact hq
    · cases h
  · cases h
theorem rrd_wr {r : Rul} (h : frm r = true) : rrd (wrB r) = some r := by
  obtain ⟨h1, h2, h3⟩ := frm_cases h
  have hw := wds_words h
  have hF := rdF_wr h
  have n1 := valB_itoB (n := r.id) (by omega) (by omega)
  have n2 := valB_itoB (n := r.known) (by omega) (by omega)
  have hkw := kindB_word (k := r.kind) (by omega)
  unfold wordsB tellB at hw
  obtain ⟨id, kn, kd, x, y, of⟩ := r
  dsimp only at *
  unfold rrd
  rcases h3 with ⟨hk, hx, rfl, rfl⟩ | ⟨hk, hx, hy, rfl⟩ | ⟨rfl, rfl, rfl, ho⟩
  · rw [if_pos hk] at hw
    rw [hw]
    dsimp only
    unfold rrK
    rw [hkw, n1, n2, if_neg (by omega)]
    exact hF
  · rw [if_neg (by omega), if_neg (by omega)] at hw
    rw [hw]
    dsimp only
    unfold rrK
    rw [hkw, n1, n2, if_neg (by omega)]
    exact hF
  · rw [if_neg (by omega), if_pos rfl] at hw
    rw [hw]
    dsimp only
    unfold rrK
    rw [hkw, n1, n2, if_pos rfl, valB_itoB (by omega) ho.2]
    exact hF
/-- both read the same -/
theorem rrd_eq (line : ByteArray) : rrd line = rdR line := by
  cases e : rdR line with
  | some r =>
    obtain ⟨h1, h2⟩ := rdR_line e
    rw [← h2, rrd_wr h1]
  | none =>
    cases e2 : rrd line with
    | none => rfl
    | some r =>
      obtain ⟨h1, h2⟩ := rrd_line e2
      rw [← h2, rdR_wr h1] at e; cases e
end Go.Proofs.YtkfeagokmcakgaaGreatDoor

namespace Go.Proofs.YtkfeagokmcakgaaGreatDoor
open Go.RowKit

/-- the names of a rule, one after the other -/
def rn1 (r : Rul) : List ByteArray := (if r.kind = 6 then [] else [r.x]) ++ (if r.kind = 3 ∨ r.kind = 4 ∨ r.kind = 5 then [r.y] else [])
def rnm (l : List Rul) : List ByteArray := l.flatMap rn1
theorem rnm_snoc (l : List Rul) (r : Rul) : rnm (l ++ [r]) = rnm l ++ rn1 r := by unfold rnm; simp
theorem rn1_mem {r : Rul} (h : frm r = true) (s : ByteArray) : s ∈ rn1 r ↔ nm1 r s = true := by
  obtain ⟨_, _, h3⟩ := frm_cases h
  have hny : nameB r.y = true → ¬ r.y.size = 0 := fun hn h0 => by have := ((nameB_iff r.y).1 hn).1; omega
  unfold rn1 nm1
  rw [h, Bool.and_true]
  rcases h3 with ⟨hk, _, hy, _⟩ | ⟨hk, _, hy, _⟩ | ⟨hk, hx, hy, _⟩
  · rw [if_neg (by omega), if_neg (by omega)]
    have h0 : r.y.size = 0 := by rw [hy]; rfl
    rw [show decide (¬ r.kind = 6) = true from decide_eq_true (by omega), show decide (¬ r.y.size = 0) = false from decide_eq_false (fun h => h h0)]
    simp
  · rw [if_neg (by omega), if_pos (by omega)]
    rw [show decide (¬ r.kind = 6) = true from decide_eq_true (by omega), show decide (¬ r.y.size = 0) = true from decide_eq_true (hny hy)]
    simp
  · rw [if_pos hk, if_neg (by omega)]
    rw [show decide (¬ r.kind = 6) = false from decide_eq_false (fun h => h hk)]
    simp
theorem rnm_mem {l : List Rul} (h : ∀ r ∈ l, frm r = true) (s : ByteArray) : s ∈ rnm l ↔ nmB l s = true := by
  unfold rnm nmB
  rw [List.mem_flatMap, List.any_eq_true]
  exact ⟨fun ⟨r, hr, h1⟩ => ⟨r, hr, (rn1_mem (h r hr) s).1 h1⟩, fun ⟨r, hr, h1⟩ => ⟨r, hr, (rn1_mem (h r hr) s).2 h1⟩⟩
def RnE (l : List Rul) (w : World) (e : Ending) (w' : World) : Prop := ∃ R A c, SrtS R (rnm l) ∧ R.length ≤ 10000 ∧ e = .returned (.slice A R.length c) ∧ Lies w' w'.heap.size A (strsC R) ∧ (R.length ≤ c ∧ c ≤ maxLen) ∧ Below w.heap.size w w'
theorem rn1_len (r : Rul) : (rn1 r).length ≤ 2 := by
  unfold rn1; rw [List.length_append]
  have h1 : (if r.kind = 6 then ([] : List ByteArray) else [r.x]).length ≤ 1 := by split <;> simp
  have h2 : (if r.kind = 3 ∨ r.kind = 4 ∨ r.kind = 5 then [r.y] else ([] : List ByteArray)).length ≤ 1 := by split <;> simp
  omega
theorem rnm_len (l : List Rul) : (rnm l).length ≤ 2 * l.length := by
  induction l with
  | nil => simp [rnm]
  | cons r l ih =>
    have h := rn1_len r
    have e : rnm (r :: l) = rn1 r ++ rnm l := by unfold rnm; simp
    rw [e, List.length_append, List.length_cons]; omega
set_option maxHeartbeats 2500000 in
set_option maxRecDepth 100000 in
theorem rnames_any (l : List Rul) (A : Option Addr) (c : Nat) (w : World) (hl : Lies w w.heap.size A (rulesC l)) (hm : l.length ≤ 500) : Calls Tryz.prog 108 #[.slice A l.length c] w (RnE l w) := by
  have HL : Hid (∀ V, Below w.heap.size w V → Lies V V.heap.size A (rulesC l)) := fun V hV => lies_on hl hV
  have HEN : Hid (l.take l.length = l) := List.take_length
  have HLEN := Lib.hid (fun k => rnm_len (l.take k))
  clear hl
  go_enter Tryz.func108, Tryz.ntmps108
  go_wp2
  go_loopw [3, 4] (fun v y wr => ∃ (k : Nat) (M : List ByteArray) (A' : Option Addr) (c' : Nat), k ≤ l.length ∧ v = .slice A' M.length c' ∧ y = .int .i64 k ∧ Hid (M = rnm (l.take k)) ∧ M.length ≤ 2 * k ∧ Hid (wr.ownsRow w.heap.size 9 1 (.slice A' M.length c') M.length (strsC M)) ∧ Hid (Below w.heap.size w wr)) (fun _ y _ => l.length - (intOf y).toNat)
  case atStart => exact ⟨0, [], none, 0, by omega, rfl, rfl, rfl, by simp, World.ownsRow_nil _ _ _ _, Below.refl _ _⟩
  case round =>
    obtain ⟨k, M, A', c', hk, rfl, rfl, HM, hMl, ho, hbw⟩ := hrel
    by_cases hlt : k < l.length
    · obtain ⟨ad, e, _, c0, c1, c2, c3, c4, c5⟩ := rule_at (HL.out wr hbw.out) hlt
      subst e
      have HTK : Hid (rnm (l.take (k + 1)) = M ++ rn1 l[k]) := by show _ = _; rw [HM.out, ← rnm_snoc, List.take_append_getElem hlt]
      have HCC : Hid (∀ V, Below w.heap.size w V → V.cell? ⟨(ad.add (k * 6)).block, (ad.add (k * 6)).off + 2, none⟩ = some (.int .u8 l[k].kind) ∧ V.cell? ⟨(ad.add (k * 6)).block, (ad.add (k * 6)).off + 3, none⟩ = some (.string l[k].x) ∧ V.cell? ⟨(ad.add (k * 6)).block, (ad.add (k * 6)).off + 4, none⟩ = some (.string l[k].y)) := fun V hV => by
        obtain ⟨ad2, e, _, _, _, g2, g3, g4, _⟩ := rule_at (HL.out V hV) hlt
        cases e; exact ⟨g2, g3, g4⟩
      generalize l[k] = r at *
      obtain ⟨id, kn, kd, x, y, of⟩ := r
      dsimp only at *
      have hkI : (k : Int) < (l.length : Int) := by omega
      clear HM c0 c1 c4 c5
      by_cases h6 : kd = 6
      · have e6 : (kd != 6) = false := by rw [h6]; rfl
        have e3 : (kd == 3) = false := by rw [h6]; rfl
        have e4 : (kd == 4) = false := by rw [h6]; rfl
        have e5 : (kd == 5) = false := by rw [h6]; rfl
        have HN : Hid (rnm (l.take (k + 1)) = M) := by show _ = _; rw [HTK.out]; unfold rn1; rw [if_pos h6, if_neg (by dsimp only; omega)]; simp
        clear h6 HTK
        go_wp2_with fail
        go_roundw
        case rel => exact ⟨k + 1, M, A', c', by omega, rfl, by go_num, HN.out.symm, by omega, ho, hbw⟩
        case measure => simp [intOf]; omega
      have e6 : (kd != 6) = true := by rw [bne_iff_ne]; exact h6
      have HX := Lib.hid (show strsC M ++ [.string x] = strsC (M ++ [x]) by simp [strsC])
      have hlx : (M ++ [x]).length = M.length + 1 := by simp
      go_upto_region 7 with (at_builtin; refine wpList_append1 rfl (.tmp 17) (.tmp 23) 34 rfl w.heap.size 9 (.string ByteArray.empty) 1 16 Tryz.underlying34 info9 rfl (by decide) _ (M).length (strsC (M)) rfl (ho.out.alloc _) wr.heap.size #[.string x] 9 rfl (Bk.new _ _ _) rfl (by intro u hu; simp at hu; subst hu; rfl) (by omega) (by decide) (by have h1 := hbw.out.size; simp; omega) w.heap.size w (hbw.out.alloc hbw.out.size _) (Nat.le_refl _) ?_; intro v' w4 ho4 hb4 _; replace ho4 : w4.ownsRow w.heap.size 9 1 v' (M.length + 1) (strsC (M ++ [x])) := by rw [← HX.out]; exact ho4)
      obtain ⟨A4, c4', rfl, _, _⟩ := ownsSlice ho4
      have ho6 : Hid (w4.ownsRow w.heap.size 9 1 (.slice A4 (M ++ [x]).length c4') (M ++ [x]).length (strsC (M ++ [x]))) := by rw [hlx]; exact ho4
      have HB4 := Lib.hid hb4
      obtain ⟨g2, g3, g4⟩ := HCC.out _ hb4
      clear ho4 hb4 ho c2 c3
      rw [← hlx]
      generalize hM2 : M ++ [x] = M2 at *
      have hM2k : M2.length ≤ 2 * k + 1 := by omega
      clear hlx hMl
      by_cases h345 : kd = 3 ∨ kd = 4 ∨ kd = 5
      · have HN : Hid (rnm (l.take (k + 1)) = M2 ++ [y]) := by show _ = _; rw [HTK.out, ← hM2]; unfold rn1; rw [if_neg h6, if_pos h345]; simp
        have HX2 := Lib.hid (show strsC M2 ++ [.string y] = strsC (M2 ++ [y]) by simp [strsC])
        have hly : (M2 ++ [y]).length = M2.length + 1 := by simp
        have e345 : (kd == 3) = true ∨ ((kd == 3) = false ∧ (kd == 4) = true) ∨ ((kd == 3) = false ∧ (kd == 4) = false ∧ (kd == 5) = true) := by rcases h345 with h | h | h <;> rw [h] <;> decide
        clear HTK h6 h345 HX hM2
        rcases e345 with q3 | ⟨q3, q4⟩ | ⟨q3, q4, q5⟩
        · go_wp2_with (at_builtin; refine wpList_append1 rfl (.tmp 47) (.tmp 53) 34 rfl w.heap.size 9 (.string ByteArray.empty) 1 16 Tryz.underlying34 info9 rfl (by decide) _ (M2).length (strsC (M2)) rfl (ho6.out.alloc _) w4.heap.size #[.string y] 9 rfl (Bk.new _ _ _) rfl (by intro u hu; simp at hu; subst hu; rfl) (by omega) (by decide) (by have h1 := HB4.out.size; simp; omega) w.heap.size w (HB4.out.alloc HB4.out.size _) (Nat.le_refl _) ?_; intro v' w5 ho5 hb5 _; replace ho5 : w5.ownsRow w.heap.size 9 1 v' (M2.length + 1) (strsC (M2 ++ [y])) := (by rw [← HX2.out]; exact ho5); obtain ⟨A5, c5', rfl, _, _⟩ := ownsSlice ho5)
          go_roundw
          case rel => exact ⟨k + 1, M2 ++ [y], A5, c5', by omega, by rw [hly], by go_num, HN.out.symm, by omega, Lib.hid (by rw [hly]; exact ho5), Lib.hid hb5⟩
          case measure => simp [intOf]; omega
        · go_wp2_with (at_builtin; refine wpList_append1 rfl (.tmp 47) (.tmp 53) 34 rfl w.heap.size 9 (.string ByteArray.empty) 1 16 Tryz.underlying34 info9 rfl (by decide) _ (M2).length (strsC (M2)) rfl (ho6.out.alloc _) w4.heap.size #[.string y] 9 rfl (Bk.new _ _ _) rfl (by intro u hu; simp at hu; subst hu; rfl) (by omega) (by decide) (by have h1 := HB4.out.size; simp; omega) w.heap.size w (HB4.out.alloc HB4.out.size _) (Nat.le_refl _) ?_; intro v' w5 ho5 hb5 _; replace ho5 : w5.ownsRow w.heap.size 9 1 v' (M2.length + 1) (strsC (M2 ++ [y])) := (by rw [← HX2.out]; exact ho5); obtain ⟨A5, c5', rfl, _, _⟩ := ownsSlice ho5)
          go_roundw
          case rel => exact ⟨k + 1, M2 ++ [y], A5, c5', by omega, by rw [hly], by go_num, HN.out.symm, by omega, Lib.hid (by rw [hly]; exact ho5), Lib.hid hb5⟩
          case measure => simp [intOf]; omega
        · go_wp2_with (at_builtin; refine wpList_append1 rfl (.tmp 47) (.tmp 53) 34 rfl w.heap.size 9 (.string ByteArray.empty) 1 16 Tryz.underlying34 info9 rfl (by decide) _ (M2).length (strsC (M2)) rfl (ho6.out.alloc _) w4.heap.size #[.string y] 9 rfl (Bk.new _ _ _) rfl (by intro u hu; simp at hu; subst hu; rfl) (by omega) (by decide) (by have h1 := HB4.out.size; simp; omega) w.heap.size w (HB4.out.alloc HB4.out.size _) (Nat.le_refl _) ?_; intro v' w5 ho5 hb5 _; replace ho5 : w5.ownsRow w.heap.size 9 1 v' (M2.length + 1) (strsC (M2 ++ [y])) := (by rw [← HX2.out]; exact ho5); obtain ⟨A5, c5', rfl, _, _⟩ := ownsSlice ho5)
          go_roundw
          case rel => exact ⟨k + 1, M2 ++ [y], A5, c5', by omega, by rw [hly], by go_num, HN.out.symm, by omega, Lib.hid (by rw [hly]; exact ho5), Lib.hid hb5⟩
          case measure => simp [intOf]; omega
      · have HN : Hid (rnm (l.take (k + 1)) = M2) := by show _ = _; rw [HTK.out, ← hM2]; unfold rn1; rw [if_neg h6, if_neg h345]; simp
        have q3 : (kd == 3) = false := by rw [beq_eq_false_iff_ne]; omega
        have q4 : (kd == 4) = false := by rw [beq_eq_false_iff_ne]; omega
        have q5 : (kd == 5) = false := by rw [beq_eq_false_iff_ne]; omega
        clear HTK h6 h345 HX hM2
        go_wp2_with fail
        go_roundw
        case rel => exact ⟨k + 1, M2, A4, c4', by omega, rfl, by go_num, HN.out.symm, by omega, ho6, HB4⟩
        case measure => simp [intOf]; omega
    · obtain rfl : k = l.length := by omega
      rw [HEN.out] at HM
      have HRS := Lib.hid (rsorted_any M A' c' wr (ownsRow_lies ho.out) (by omega))
      clear HL HEN HLEN ho
      go_wp2_with (go_at_call 91; refine HRS.out.mono ?_; rintro e w5 ⟨R, A5, c5, hR, hRl, rfl, hL5, hc5, hb5⟩)
      go_ret
      exact ⟨R, A5, c5, by rw [← HM.out]; exact hR, hRl, rfl, hL5, hc5, hbw.out.trans (hb5.mono hbw.out.size)⟩
end Go.Proofs.YtkfeagokmcakgaaGreatDoor

namespace Go.Proofs.YtkfeagokmcakgaaGreatDoor
open Go.RowKit

theorem cnt_frm (l : List Rul) (known : Int) : ∀ r ∈ cntL l known, frm r = true := fun r hr => by
  have h := (List.mem_filter.1 hr).2
  unfold cntB at h
  simp only [Bool.and_eq_true] at h
  exact h.1.1.1
/-- what is kept of a list of names in order -/
theorem SrtS.filt {R M : List ByteArray} {p q F : ByteArray → Bool} (h : SrtS R M) (hm : ∀ s, s ∈ M ↔ p s = true) (hsz : ∀ s, p s = true → s.size ≤ 100) (hq : ∀ s, q s = (p s && F s)) : SrtOf (R.filter F) q :=
  ⟨h.srt.filter _, h.nd.filter _, fun s => by
    rw [List.mem_filter, h.mem s, hm s, hq s, Bool.and_eq_true]
    exact ⟨fun ⟨h1, h2⟩ => ⟨Nat.le_trans (hsz s h1) (by decide), h1, h2⟩, fun ⟨_, h1, h2⟩ => ⟨h1, h2⟩⟩⟩
theorem filt_yes {R : List ByteArray} {F : ByteArray → Bool} {k : Nat} (hk : k < R.length) (h : F R[k] = true) : (R.take (k + 1)).filter F = (R.take k).filter F ++ [R[k]] := by
  rw [← List.take_append_getElem hk, List.filter_append]; simp [h]
theorem filt_no {R : List ByteArray} {F : ByteArray → Bool} {k : Nat} (hk : k < R.length) (h : F R[k] = false) : (R.take (k + 1)).filter F = (R.take k).filter F := by
  rw [← List.take_append_getElem hk, List.filter_append]; simp [h]
set_option maxHeartbeats 2500000 in
set_option maxRecDepth 100000 in
theorem rcontrary_any (l : List Rul) (A : Option Addr) (c : Nat) (known : Int) (w : World) (hl : Lies w w.heap.size A (rulesC l)) (hok : RulOK l) (hm : l.length ≤ 500) :
    Calls Tryz.prog 59 #[.agg #[.slice A l.length c], .int .i64 known] w (GpE (ctr (cntL l known)) w) := by
  have HC : Hid (∀ W, Below w.heap.size w W → Calls Tryz.prog 39 #[.agg #[.slice A l.length c], .int .i64 known] W (SlE (cntL l known) W)) := fun W hb => rcounting_any l A c known W ((hl.below hb (Nat.le_refl _)).more hb.size) hok (by omega)
  have HOK := Lib.hid (hok.sub (cnt_sub l known))
  have HLN : Hid ((cntL l known).length ≤ 500) := Nat.le_trans (cnt_len l known) hm
  have HFR := Lib.hid (cnt_frm l known)
  clear hl hok
  generalize cntL l known = d at *
  have HNA := Lib.hid (fun A' c' W hL => rnames_any d A' c' W hL HLN.out)
  go_enter Tryz.func59, Tryz.ntmps59
  go_upto_region 3 with (first | (go_at_call 39; refine (HC.out _ (by repeat (first | with_reducible exact Below.refl _ _ | with_reducible assumption | with_reducible refine Below.drew ?_ | with_reducible refine below_drewN ?_ _ | (with_reducible refine Below.alloc ?_ ?_ _; rotate_left; (try simp) <;> omega) | (with_reducible refine Below.setCell ?_ ?_ _; rotate_left; (try simp) <;> omega)))).mono ?_; rintro e w1 ⟨A1, c1, rfl, hl1, _, hb1⟩; have hB1 : Below w.heap.size w w1 := Below.trans (by repeat (first | with_reducible exact Below.refl _ _ | with_reducible assumption | with_reducible refine Below.drew ?_ | with_reducible refine below_drewN ?_ _ | (with_reducible refine Below.alloc ?_ ?_ _; rotate_left; (try simp) <;> omega) | (with_reducible refine Below.setCell ?_ ?_ _; rotate_left; (try simp) <;> omega))) (hb1.mono (by simp))) | (go_at_call 108; refine (HNA.out _ _ _ hl1).mono ?_; rintro e w2 ⟨R, A2, c2, hR, hRl, rfl, hl2, hc2, hb2⟩; have hB2 : Below w.heap.size w w2 := hB1.trans (hb2.mono hB1.size)))
  have HST : Hid (∀ V x, Below w2.heap.size w2 V → Calls Tryz.prog 92 #[.slice A1 d.length c1, .string x] V (U8End (stt d x) V)) := fun V x hV => rstate_any d A1 c1 x V (lies_on (lies_on hl1 hb2) hV) (by have := HLN.out; omega)
  have HLR : Hid (∀ V, Below w2.heap.size w2 V → Lies V V.heap.size A2 (strsC R)) := fun V hV => lies_on hl2 hV
  have HSR : Hid (SrtOf (R.filter fun s => decide (stt d s = 3)) (ctr d)) := hR.filt (rnm_mem HFR.out) (fun s h => nmB_le HOK.out h) (fun s => rfl)
  have HTE : Hid (R.take R.length = R) := List.take_length
  have hRef : Below w2.heap.size w2 w2 := Below.refl _ _
  clear hR hl2 hl1 hb1 hb2 HC HNA
  go_wp2
  go_loopw [7, 8] (fun v y wr => ∃ (k : Nat) (M : List ByteArray) (A' : Option Addr) (c' : Nat), k ≤ R.length ∧ v = .slice A' M.length c' ∧ y = .int .i64 k ∧ Hid (M = (R.take k).filter fun s => decide (stt d s = 3)) ∧ M.length ≤ k ∧ Hid (wr.ownsRow w2.heap.size 9 1 (.slice A' M.length c') M.length (strsC M)) ∧ Hid (Below w2.heap.size w2 wr)) (fun _ y _ => R.length - (intOf y).toNat)
  case atStart => exact ⟨0, [], none, 0, by omega, rfl, rfl, rfl, by simp, World.ownsRow_nil _ _ _ _, hRef⟩
  case round =>
    obtain ⟨k, M, A', c', hk, rfl, rfl, HM, hMl, ho, hbw⟩ := hrel
    clear hRef
    by_cases hlt : k < R.length
    · obtain ⟨ad, e, _, c0⟩ := str_at (HLR.out wr hbw.out) hlt
      subst e
      have HCC : Hid (∀ V, Below w2.heap.size w2 V → V.cell? (ad.add k) = some (.string R[k])) := fun V hV => by
        obtain ⟨ad2, e, _, g⟩ := str_at (HLR.out V hV) hlt
        cases e; exact g
      have HY := Lib.hid (fun h => filt_yes (F := fun s => decide (stt d s = 3)) hlt h)
      have HN := Lib.hid (fun h => filt_no (F := fun s => decide (stt d s = 3)) hlt h)
      rw [← HM.out] at HY HN
      have HS := Lib.hid (HST.out wr R[k] hbw.out)
      have hkI : (k : Int) < (R.length : Int) := by omega
      generalize R[k] = x at *
      by_cases h3 : stt d x = 3
      · have e3 : (((stt d x : Nat) : Int) == 3) = true := by rw [h3]; rfl
        have HN2 := Lib.hid (HY.out (decide_eq_true h3))
        clear HY HN h3 HM
        generalize stt d x = q3 at *
        have HX := Lib.hid (show strsC M ++ [.string x] = strsC (M ++ [x]) by simp [strsC])
        have hlx : (M ++ [x]).length = M.length + 1 := by simp
        go_wp2_with (first | (go_at_call 92; refine HS.out.mono ?_; rintro e w4 ⟨rfl, hb4⟩; have HB4 := Lib.hid (hbw.out.trans (hb4.mono hbw.out.size)); have ho4 := Lib.hid (ownsRow_below ho.out hb4 (Nat.le_refl _)); have c4 := HCC.out _ HB4.out) | (at_builtin; refine wpList_append1 rfl (.tmp 27) (.tmp 32) 34 rfl w2.heap.size 9 (.string ByteArray.empty) 1 16 Tryz.underlying34 info9 rfl (by decide) _ (M).length (strsC (M)) rfl (ho4.out.alloc _) w4.heap.size #[.string x] 9 rfl (Bk.new _ _ _) rfl (by intro u hu; simp at hu; subst hu; rfl) (by omega) (by decide) (by have h1 := HB4.out.size; simp; omega) w2.heap.size w2 (HB4.out.alloc HB4.out.size _) (Nat.le_refl _) ?_; intro v' w5 ho5 hb5 _; replace ho5 : w5.ownsRow w2.heap.size 9 1 v' (M.length + 1) (strsC (M ++ [x])) := (by rw [← HX.out]; exact ho5); obtain ⟨A5, c5', rfl, _, _⟩ := ownsSlice ho5))
        go_roundw
        case rel => exact ⟨k + 1, M ++ [x], A5, c5', by omega, by rw [hlx], by go_num, HN2.out.symm, by omega, Lib.hid (by rw [hlx]; exact ho5), Lib.hid hb5⟩
        case measure => simp [intOf]; omega
      · have e3 : (((stt d x : Nat) : Int) == 3) = false := by rw [beq_eq_false_iff_ne]; omega
        have HN2 := Lib.hid (HN.out (decide_eq_false h3))
        clear HY HN h3 HM
        generalize stt d x = q3 at *
        go_wp2_with (go_at_call 92; refine HS.out.mono ?_; rintro e w4 ⟨rfl, hb4⟩; have HB4 := Lib.hid (hbw.out.trans (hb4.mono hbw.out.size)); have ho4 := Lib.hid (ownsRow_below ho.out hb4 (Nat.le_refl _)))
        go_roundw
        case rel => exact ⟨k + 1, M, A', c', by omega, rfl, by go_num, HN2.out.symm, by omega, ho4, HB4⟩
        case measure => simp [intOf]; omega
    · obtain rfl : k = R.length := by omega
      rw [HTE.out] at HM
      rw [← HM.out] at HSR
      have HLI := Lib.hid (ownsRow_lies ho.out)
      have hcap := ownsSlice ho.out
      clear HST HLR ho
      go_wp2
      go_ret
      obtain ⟨A7, c7, e7, h1, h2⟩ := hcap
      cases e7
      exact ⟨M, A', c', HSR.out, by omega, rfl, HLI.out, ⟨h1, h2⟩, hB2.trans (hbw.out.mono hB2.size)⟩
end Go.Proofs.YtkfeagokmcakgaaGreatDoor
