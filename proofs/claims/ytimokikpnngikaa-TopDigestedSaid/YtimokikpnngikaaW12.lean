/- The walks of knows03 and of the law. -/
import Derived.Test.YtimokikpnngikaaW11
import Derived.Test.YtimokikpnngikaaD7
import Derived.Test.YtimokikpnngikaaFx
namespace Go.Proofs.Ytimokikpnngikaa
open Go Go.RowKit Go.Proofs Go.Fw Go.Dig
def one1 : List UInt8 := [0, 1] ++ List.replicate 30 0
def nil32 : List UInt8 := List.replicate 32 0
def nil64 : List UInt8 := List.replicate 64 0
def blk1 : List UInt8 := [1] ++ List.replicate 63 0
theorem byteAt_rep (n i : Nat) : byteAt (List.replicate n 0) i = 0 := by
  simp only [byteAt, List.getD_eq_getElem?_getD, List.getElem?_replicate]
  split <;> rfl
theorem one1_arr : arr 32 (upd (fun _ => B8 0) 1 (.int .u8 1)) = arr 32 (fun i => B8 (byteAt one1 i)) := arr_congr fun i hi => by
  unfold upd
  match i with
  | 0 => rfl
  | 1 => rfl
  | i + 2 =>
    rw [if_neg (by omega)]
    show B8 0 = B8 (byteAt (List.replicate 30 0) i)
    rw [byteAt_rep]
theorem pad55 : (padL (List.replicate 55 0)).length = 64 := by decide +kernel
theorem pad56 : (padL (List.replicate 56 0)).length = 128 := by decide +kernel
theorem rep_arr (N : Nat) (i : Nat) (y : Value) (hy : ((List.replicate N (0 : UInt8)).map B8)[i]? = some y) : (arr N fun _ => B8 0)[0 + i]? = some y := by
  have := bytes_arr (List.replicate N 0) N (by simp) i y hy
  rwa [arr_congr (G := fun _ => B8 0) (fun i _ => by rw [byteAt_rep])] at this
set_option maxHeartbeats 1000000 in
theorem knows03_calls (w : World) : Calls Try.prog 4 #[] w (Pure1 w (.bool true)) := by
  have h1 : one1.length = 32 := by decide
  have h2 : nil32.length = 32 := by decide
  have hh1 : (hexL one1).length = 64 := by rw [hexL_len, h1]
  refine enter (args := []) 70 Try.func4 rfl rfl (by simp) ?_
  refine J.seq ?_
  refine J.region ?_
  refine JL.ev _ rfl rfl (Ev.assign rfl) ?_
  refine JL.nil ?_
  refine JE.next ?_
  refine J.seq ?_
  refine J.region ?_
  refine JL.eff (Eff.callP rfl (enters Try.func6 (by kernel_rfl) rfl) (tables_calls)) rfl rfl (fun _ _ => ?_)
  refine JL.ev _ rfl rfl (Ev.move rfl) ?_
  refine JL.ev _ rfl rfl (Ev.extract rfl rfl) ?_
  refine JL.ev _ rfl rfl (Ev.extract rfl rfl) ?_
  refine JL.eff (Eff.allocA 64 (fun _ => U 0) (by kernel_rfl)) rfl rfl (fun g1 _ => ?_)
  refine JL.eff (Eff.allocA 8 (fun _ => U 0) (by kernel_rfl)) rfl rfl (fun g2 _ => ?_)
  refine JL.eff0 (Eff.storeAll rfl rfl (by kernel_rfl) (fun _ => rfl) (by repeat (first | exact At.here | apply At.there))) rfl rfl (fun _ _ => ?_)
  refine JL.eff0 (Eff.storeAll rfl rfl (by kernel_rfl) (fun _ => rfl) (by repeat (first | exact At.here | apply At.there))) rfl rfl (fun _ _ => ?_)
  refine JL.nil ?_
  refine JE.next ?_
  refine J.seq ?_
  refine J.region ?_
  refine JL.eff (Eff.allocA 32 (fun _ => B8 0) (by kernel_rfl)) rfl rfl (fun g3 _ => ?_)
  refine JL.nil ?_
  refine JE.next ?_
  refine J.seq ?_
  refine J.region ?_
  refine JL.ev _ rfl rfl (Ev.indexAddrA rfl rfl Try.underlying27 (by kernel_rfl) (by omega) (by omega) (j := 1) rfl) ?_
  refine JL.eff0 (Eff.storeA rfl rfl rfl (by kernel_rfl) (by repeat (first | exact At.here | apply At.there)) (by omega)) rfl rfl (fun _ _ => ?_)
  rw [one1_arr]
  refine JL.nil ?_
  refine JE.next ?_
  refine J.seq ?_
  refine J.drawX (_) [0, 1, 2, 3, 4, 5, 6, 7, 8, 9, 10, 11, 12, 13, 14, 15, 16, 17, 18, 19, 20, 21, 22, 23, 24, 25, 26, 27, 28, 29, 30, 31, 32, 33, 34, 35, 36, 37, 38, 39, 40, 41, 42, 43, 44, 45, 46, 47, 48, 49, 50, 51, 52, 53, 54, 55, 56, 57, 58, 59, 60] 62 (fun _ s => s) (by kernel_rfl) (by kernel_rfl) ?_
  refine JX.ev (i := 0) (by kernel_rfl) _ rfl rfl rfl (Ev.loadAll rfl Try.underlying30 rfl (by repeat (first | exact At.here | apply At.there)) (by kernel_rfl)) ?_
  refine JX.ev (i := 1) (by kernel_rfl) _ rfl rfl rfl (Ev.loadAll rfl Try.underlying24 rfl (by repeat (first | exact At.here | apply At.there)) (by kernel_rfl)) ?_
  refine JX.only (i := 2) (by kernel_rfl) ?_
  refine JO.eff (fun _ => _) rfl (Eff.callP rfl (enters Try.func8 (by kernel_rfl) rfl) (digest03_calls kT hT [97, 98, 99] (by decide))) rfl rfl (fun _ _ _ s => s) (fun _ _ s => s) (fun _ _ => ?_)
  refine JX.only (i := 3) (by kernel_rfl) ?_
  refine JO.eff (fun _ => _) rfl (Eff.callP rfl (enters Try.func7 (by kernel_rfl) rfl) (hex_calls (sumL [97, 98, 99]) (by rw [show (sumL [97, 98, 99]).length = 32 from out8_len _]; decide))) rfl rfl (fun _ _ _ s => s) (fun _ _ s => s) (fun _ _ => ?_)
  refine JX.ev (i := 4) (by kernel_rfl) _ rfl rfl rfl (Ev.eqlS (a := hexL (sumL [97, 98, 99])) (b := [98, 97, 55, 56, 49, 54, 98, 102, 56, 102, 48, 49, 99, 102, 101, 97, 52, 49, 52, 49, 52, 48, 100, 101, 53, 100, 97, 101, 50, 50, 50, 51, 98, 48, 48, 51, 54, 49, 97, 51, 57, 54, 49, 55, 55, 97, 57, 99, 98, 52, 49, 48, 102, 102, 54, 49, 102, 50, 48, 48, 49, 53, 97, 100]) (c := true) rfl rfl (by rw [sumAbc]; decide)) ?_
  refine JX.ev (i := 5) (by kernel_rfl) _ rfl rfl rfl (Ev.move rfl) ?_
  refine JX.ev (i := 6) (by kernel_rfl) _ rfl rfl rfl (Ev.loadAll rfl Try.underlying30 rfl (by repeat (first | exact At.here | apply At.there)) (by kernel_rfl)) ?_
  refine JX.ev (i := 7) (by kernel_rfl) _ rfl rfl rfl (Ev.loadAll rfl Try.underlying24 rfl (by repeat (first | exact At.here | apply At.there)) (by kernel_rfl)) ?_
  refine JX.only (i := 8) (by kernel_rfl) ?_
  refine JO.eff (fun _ => _) rfl (Eff.callP rfl (enters Try.func8 (by kernel_rfl) rfl) (digest03_calls kT hT [] (by decide))) rfl rfl (fun _ _ _ s => s) (fun _ _ s => s) (fun _ _ => ?_)
  refine JX.only (i := 9) (by kernel_rfl) ?_
  refine JO.eff (fun _ => _) rfl (Eff.callP rfl (enters Try.func7 (by kernel_rfl) rfl) (hex_calls (sumL []) (by rw [show (sumL []).length = 32 from out8_len _]; decide))) rfl rfl (fun _ _ _ s => s) (fun _ _ s => s) (fun _ _ => ?_)
  refine JX.ev (i := 10) (by kernel_rfl) _ rfl rfl rfl (Ev.eqlS (a := hexL (sumL [])) (b := [101, 51, 98, 48, 99, 52, 52, 50, 57, 56, 102, 99, 49, 99, 49, 52, 57, 97, 102, 98, 102, 52, 99, 56, 57, 57, 54, 102, 98, 57, 50, 52, 50, 55, 97, 101, 52, 49, 101, 52, 54, 52, 57, 98, 57, 51, 52, 99, 97, 52, 57, 53, 57, 57, 49, 98, 55, 56, 53, 50, 98, 56, 53, 53]) (c := true) rfl rfl (by rw [sumNil]; decide)) ?_
  refine JX.ev (i := 11) (by kernel_rfl) _ rfl rfl rfl (Ev.pickT rfl rfl) ?_
  refine JX.ev (i := 12) (by kernel_rfl) _ rfl rfl rfl (Ev.move rfl) ?_
  refine JX.ev (i := 13) (by kernel_rfl) _ rfl rfl rfl (Ev.indexAddrA rfl rfl Try.underlying24 (by kernel_rfl) (by omega) (by omega) (j := 7) rfl) ?_
  refine JX.ev (i := 14) (by kernel_rfl) _ rfl rfl rfl (Ev.loadA (F := fun i => U (hT i)) (N := 8) (o := 7) rfl Try.underlying23 rfl (by repeat (first | exact At.here | apply At.there)) (by decide)) ?_
  refine JX.ev (i := 15) (by kernel_rfl) _ rfl rfl rfl (Ev.eqI (a := ((hT 7).toNat : Int)) (b := 1541459225) (c := true) rfl rfl (by rw [hT_eq 7 (by decide)]; decide +kernel)) ?_
  refine JX.ev (i := 16) (by kernel_rfl) _ rfl rfl rfl (Ev.pickT rfl rfl) ?_
  refine JX.ev (i := 17) (by kernel_rfl) _ rfl rfl rfl (Ev.move rfl) ?_
  refine JX.ev (i := 18) (by kernel_rfl) _ rfl rfl rfl (Ev.indexAddrA rfl rfl Try.underlying30 (by kernel_rfl) (by omega) (by omega) (j := 63) rfl) ?_
  refine JX.ev (i := 19) (by kernel_rfl) _ rfl rfl rfl (Ev.loadA (F := fun i => U (kT i)) (N := 64) (o := 63) rfl Try.underlying23 rfl (by repeat (first | exact At.here | apply At.there)) (by decide)) ?_
  refine JX.ev (i := 20) (by kernel_rfl) _ rfl rfl rfl (Ev.eqI (a := ((kT 63).toNat : Int)) (b := 3329325298) (c := true) rfl rfl (by rw [kT_eq 63 (by decide)]; decide +kernel)) ?_
  refine JX.ev (i := 21) (by kernel_rfl) _ rfl rfl rfl (Ev.pickT rfl rfl) ?_
  refine JX.ev (i := 22) (by kernel_rfl) _ rfl rfl rfl (Ev.move rfl) ?_
  refine JX.only (i := 23) (by kernel_rfl) ?_
  refine JO.eff (fun g => cells g (arr 55 fun _ => B8 0) 5 :: _) rfl (Eff.makeC (m := 55) (c := 55) (z := B8 0) (bytes := 1) rfl rfl Try.underlying22 (by kernel_rfl) rfl (by omega) (by omega) (by omega)) rfl rfl (fun _ _ _ s => s) (fun _ _ s => s.sub (List.sublist_cons_self ..)) (fun gm55 _ => ?_)
  refine JX.ev (i := 24) (by kernel_rfl) _ rfl rfl rfl (Ev.strR (a := List.replicate 55 0) rfl Try.underlying22 Try.underlying5 Try.underlying9 (fun w s => rdOk_cells s (by repeat (first | exact At.here | apply At.there)) (by simp) (rep_arr 55))) ?_
  refine JX.only (i := 25) (by kernel_rfl) ?_
  refine JO.eff (fun _ => _) rfl (Eff.callP rfl (enters Try.func9 (by kernel_rfl) rfl) (filled_calls (List.replicate 55 0) (by decide))) rfl rfl (fun _ _ _ s => s) (fun _ _ s => s) (fun _ _ => ?_)
  refine JX.ev (i := 26) (by kernel_rfl) _ rfl rfl rfl (Ev.lenS rfl Try.underlying9) ?_
  refine JX.ev (i := 27) (by kernel_rfl) _ rfl rfl rfl (Ev.eqI (a := ((padL (List.replicate 55 0)).length : Int)) (b := 64) (c := true) rfl rfl (by rw [pad55]; decide)) ?_
  refine JX.ev (i := 28) (by kernel_rfl) _ rfl rfl rfl (Ev.pickT rfl rfl) ?_
  refine JX.ev (i := 29) (by kernel_rfl) _ rfl rfl rfl (Ev.move rfl) ?_
  refine JX.only (i := 30) (by kernel_rfl) ?_
  refine JO.eff (fun g => cells g (arr 56 fun _ => B8 0) 5 :: _) rfl (Eff.makeC (m := 56) (c := 56) (z := B8 0) (bytes := 1) rfl rfl Try.underlying22 (by kernel_rfl) rfl (by omega) (by omega) (by omega)) rfl rfl (fun _ _ _ s => s) (fun _ _ s => s.sub (List.sublist_cons_self ..)) (fun gm56 _ => ?_)
  refine JX.ev (i := 31) (by kernel_rfl) _ rfl rfl rfl (Ev.strR (a := List.replicate 56 0) rfl Try.underlying22 Try.underlying5 Try.underlying9 (fun w s => rdOk_cells s (by repeat (first | exact At.here | apply At.there)) (by simp) (rep_arr 56))) ?_
  refine JX.only (i := 32) (by kernel_rfl) ?_
  refine JO.eff (fun _ => _) rfl (Eff.callP rfl (enters Try.func9 (by kernel_rfl) rfl) (filled_calls (List.replicate 56 0) (by decide))) rfl rfl (fun _ _ _ s => s) (fun _ _ s => s) (fun _ _ => ?_)
  refine JX.ev (i := 33) (by kernel_rfl) _ rfl rfl rfl (Ev.lenS rfl Try.underlying9) ?_
  refine JX.ev (i := 34) (by kernel_rfl) _ rfl rfl rfl (Ev.eqI (a := ((padL (List.replicate 56 0)).length : Int)) (b := 128) (c := true) rfl rfl (by rw [pad56]; decide)) ?_
  refine JX.ev (i := 35) (by kernel_rfl) _ rfl rfl rfl (Ev.pickT rfl rfl) ?_
  refine JX.ev (i := 36) (by kernel_rfl) _ rfl rfl rfl (Ev.move rfl) ?_
  refine JX.ev (i := 39) (by kernel_rfl) _ rfl rfl rfl (Ev.loadAll rfl Try.underlying24 rfl (by repeat (first | exact At.here | apply At.there)) (by kernel_rfl)) ?_
  refine JX.ev (i := 40) (by kernel_rfl) _ rfl rfl rfl (Ev.closed (v := .agg (arr 64 fun i => B8 (byteAt blk1 i))) (fun u w => by kernel_rfl)) ?_
  refine JX.ev (i := 41) (by kernel_rfl) _ rfl rfl rfl (Ev.sliceArr rfl Try.underlying27 (by kernel_rfl)) ?_
  refine JX.ev (i := 42) (by kernel_rfl) _ rfl rfl rfl (Ev.strR (a := one1) rfl Try.underlying22 Try.underlying5 Try.underlying9 (fun w s => rdOk_cells s (by repeat (first | exact At.here | apply At.there)) (by rw [List.length_map, h1]) (bytes_arr _ _ h1))) ?_
  refine JX.ev (i := 45) (by kernel_rfl) _ rfl rfl rfl (Ev.closed (v := .agg (arr 32 fun i => B8 (byteAt nil32 i))) (fun u w => by kernel_rfl)) ?_
  refine JX.ev (i := 46) (by kernel_rfl) _ rfl rfl rfl (Ev.loadAll rfl Try.underlying27 rfl (by repeat (first | exact At.here | apply At.there)) (by kernel_rfl)) ?_
  refine JX.fork (i := 37) (j := 43) (by kernel_rfl) ?_ ?_
  · refine JO.eff (fun g => rdE (.slice (some ⟨g, 0, none⟩) 3 3) ([97, 98, 99].map B8) true :: _) rfl (Eff.weak (Eff.litV (e := 5) (z := B8 0) (xs := [97, 98, 99].map B8) Try.underlying22 (by kernel_rfl) rfl (by decide) rfl (fun u => by kernel_rfl) (by decide)) (fun g w _ s => s.rowRd At.here)) rfl rfl (fun _ _ _ s => s) (fun _ _ s => s.sub (List.sublist_cons_self ..)) (fun g46 _ => ?_)
    refine JX.fork (i := 38) (j := 43) (by kernel_rfl) ?_ ?_
    · refine JO.eff (fun _ => _) rfl (Eff.convR rfl rfl Try.underlying22 Try.underlying5 (by repeat (first | exact At.here | apply At.there))) rfl rfl (fun _ _ _ s => s) (fun _ _ s => s) (fun _ _ => ?_)
      refine JX.only (i := 43) (by kernel_rfl) ?_
      refine JO.eff (fun _ => _) rfl (Eff.callP rfl (enters Try.func7 (by kernel_rfl) rfl) (hex_calls one1 (by decide))) rfl rfl (fun _ _ _ s => s) (fun _ _ s => s) (fun _ _ => ?_)
      refine JX.ev (i := 44) (by kernel_rfl) _ rfl rfl rfl (Ev.sliceFrom (a := hexL one1) (i := 1) rfl Try.underlying9 rfl (by omega)) ?_
      refine JX.only (i := 47) (by kernel_rfl) ?_
      refine JO.eff (fun _ => _) rfl (Eff.callW rfl (enters Try.func5 (by kernel_rfl) rfl) fun w s => digested03_calls _ [97, 98, 99] hT blk1 ((hexL one1).drop 1) nil32 one1 (by decide) (by decide) (by rw [List.length_drop, hh1]; decide) h2 h1 w (rdE_ok s (by repeat (first | exact At.here | apply At.there)))) rfl rfl (fun _ _ _ s => s) (fun _ _ s => s) (fun _ _ => ?_)
      refine JX.ev (i := 48) (by kernel_rfl) _ rfl rfl rfl (Ev.pickT rfl rfl) ?_
      refine JX.ev (i := 49) (by kernel_rfl) _ rfl rfl rfl (Ev.move rfl) ?_
      refine JX.ev (i := 50) (by kernel_rfl) _ rfl rfl rfl (Ev.closed (v := .agg (arr 8 fun _ => U 0)) (fun u w => by kernel_rfl)) ?_
      refine JX.ev (i := 51) (by kernel_rfl) _ rfl rfl rfl (Ev.closed (v := .agg (arr 64 fun i => B8 (byteAt nil64 i))) (fun u w => by kernel_rfl)) ?_
      refine JX.ev (i := 52) (by kernel_rfl) _ rfl rfl rfl (Ev.sliceArr rfl Try.underlying27 (by kernel_rfl)) ?_
      refine JX.ev (i := 53) (by kernel_rfl) _ rfl rfl rfl (Ev.strR (a := one1) rfl Try.underlying22 Try.underlying5 Try.underlying9 (fun w s => rdOk_cells s (by repeat (first | exact At.here | apply At.there)) (by rw [List.length_map, h1]) (bytes_arr _ _ h1))) ?_
      refine JX.ev (i := 57) (by kernel_rfl) _ rfl rfl rfl (Ev.loadAll rfl Try.underlying27 rfl (by repeat (first | exact At.here | apply At.there)) (by kernel_rfl)) ?_
      refine JX.ev (i := 58) (by kernel_rfl) _ rfl rfl rfl (Ev.loadAll rfl Try.underlying27 rfl (by repeat (first | exact At.here | apply At.there)) (by kernel_rfl)) ?_
      refine JX.only (i := 54) (by kernel_rfl) ?_
      refine JO.eff (fun _ => _) rfl (Eff.callP rfl (enters Try.func7 (by kernel_rfl) rfl) (hex_calls one1 (by decide))) rfl rfl (fun _ _ _ s => s) (fun _ _ s => s) (fun _ _ => ?_)
      refine JX.ev (i := 55) (by kernel_rfl) _ rfl rfl rfl (Ev.sliceTo (a := hexL one1) (j := 63) rfl Try.underlying9 rfl (by omega)) ?_
      refine JX.ev (i := 56) (by kernel_rfl) _ rfl rfl rfl (Ev.addS (a := (hexL one1).take 63) (b := [70]) rfl rfl (by rw [List.length_take, hh1]; decide)) ?_
      refine JX.only (i := 59) (by kernel_rfl) ?_
      refine JO.eff (fun _ => _) rfl (Eff.callW rfl (enters Try.func5 (by kernel_rfl) rfl) fun w s => digested03_calls _ [] (fun _ => 0) nil64 ((hexL one1).take 63 ++ [70]) one1 one1 (by decide) (by decide) (by rw [List.length_append, List.length_take, hh1]; decide) h1 h1 w (.inl ⟨rfl, rfl⟩)) rfl rfl (fun _ _ _ s => s) (fun _ _ s => s) (fun _ _ => ?_)
      refine JX.ev (i := 60) (by kernel_rfl) _ rfl rfl rfl (Ev.pickT rfl rfl) ?_
      refine JX.tail (τ := [61]) (by kernel_rfl) ?_
      refine JT.ev _ rfl rfl rfl (Ev.assign rfl) ?_
      refine JT.nil (JE.np ?_)
      refine JE.next ?_
      refine J.ret ?_
      exact JE.ret1 _ rfl rfl fun w' s => ⟨rfl, s.below⟩
    · refine JO.eff (fun _ => _) rfl (Eff.callP rfl (enters Try.func7 (by kernel_rfl) rfl) (hex_calls one1 (by decide))) rfl rfl (fun _ _ _ s => s) (fun _ _ s => s) (fun _ _ => ?_)
      refine JX.ev (i := 44) (by kernel_rfl) _ rfl rfl rfl (Ev.sliceFrom (a := hexL one1) (i := 1) rfl Try.underlying9 rfl (by omega)) ?_
      refine JX.only (i := 38) (by kernel_rfl) ?_
      refine JO.eff (fun _ => _) rfl (Eff.convR rfl rfl Try.underlying22 Try.underlying5 (by repeat (first | exact At.here | apply At.there))) rfl rfl (fun _ _ _ s => s) (fun _ _ s => s) (fun _ _ => ?_)
      refine JX.only (i := 47) (by kernel_rfl) ?_
      refine JO.eff (fun _ => _) rfl (Eff.callW rfl (enters Try.func5 (by kernel_rfl) rfl) fun w s => digested03_calls _ [97, 98, 99] hT blk1 ((hexL one1).drop 1) nil32 one1 (by decide) (by decide) (by rw [List.length_drop, hh1]; decide) h2 h1 w (rdE_ok s (by repeat (first | exact At.here | apply At.there)))) rfl rfl (fun _ _ _ s => s) (fun _ _ s => s) (fun _ _ => ?_)
      refine JX.ev (i := 48) (by kernel_rfl) _ rfl rfl rfl (Ev.pickT rfl rfl) ?_
      refine JX.ev (i := 49) (by kernel_rfl) _ rfl rfl rfl (Ev.move rfl) ?_
      refine JX.ev (i := 50) (by kernel_rfl) _ rfl rfl rfl (Ev.closed (v := .agg (arr 8 fun _ => U 0)) (fun u w => by kernel_rfl)) ?_
      refine JX.ev (i := 51) (by kernel_rfl) _ rfl rfl rfl (Ev.closed (v := .agg (arr 64 fun i => B8 (byteAt nil64 i))) (fun u w => by kernel_rfl)) ?_
      refine JX.ev (i := 52) (by kernel_rfl) _ rfl rfl rfl (Ev.sliceArr rfl Try.underlying27 (by kernel_rfl)) ?_
      refine JX.ev (i := 53) (by kernel_rfl) _ rfl rfl rfl (Ev.strR (a := one1) rfl Try.underlying22 Try.underlying5 Try.underlying9 (fun w s => rdOk_cells s (by repeat (first | exact At.here | apply At.there)) (by rw [List.length_map, h1]) (bytes_arr _ _ h1))) ?_
      refine JX.ev (i := 57) (by kernel_rfl) _ rfl rfl rfl (Ev.loadAll rfl Try.underlying27 rfl (by repeat (first | exact At.here | apply At.there)) (by kernel_rfl)) ?_
      refine JX.ev (i := 58) (by kernel_rfl) _ rfl rfl rfl (Ev.loadAll rfl Try.underlying27 rfl (by repeat (first | exact At.here | apply At.there)) (by kernel_rfl)) ?_
      refine JX.only (i := 54) (by kernel_rfl) ?_
      refine JO.eff (fun _ => _) rfl (Eff.callP rfl (enters Try.func7 (by kernel_rfl) rfl) (hex_calls one1 (by decide))) rfl rfl (fun _ _ _ s => s) (fun _ _ s => s) (fun _ _ => ?_)
      refine JX.ev (i := 55) (by kernel_rfl) _ rfl rfl rfl (Ev.sliceTo (a := hexL one1) (j := 63) rfl Try.underlying9 rfl (by omega)) ?_
      refine JX.ev (i := 56) (by kernel_rfl) _ rfl rfl rfl (Ev.addS (a := (hexL one1).take 63) (b := [70]) rfl rfl (by rw [List.length_take, hh1]; decide)) ?_
      refine JX.only (i := 59) (by kernel_rfl) ?_
      refine JO.eff (fun _ => _) rfl (Eff.callW rfl (enters Try.func5 (by kernel_rfl) rfl) fun w s => digested03_calls _ [] (fun _ => 0) nil64 ((hexL one1).take 63 ++ [70]) one1 one1 (by decide) (by decide) (by rw [List.length_append, List.length_take, hh1]; decide) h1 h1 w (.inl ⟨rfl, rfl⟩)) rfl rfl (fun _ _ _ s => s) (fun _ _ s => s) (fun _ _ => ?_)
      refine JX.ev (i := 60) (by kernel_rfl) _ rfl rfl rfl (Ev.pickT rfl rfl) ?_
      refine JX.tail (τ := [61]) (by kernel_rfl) ?_
      refine JT.ev _ rfl rfl rfl (Ev.assign rfl) ?_
      refine JT.nil (JE.np ?_)
      refine JE.next ?_
      refine J.ret ?_
      exact JE.ret1 _ rfl rfl fun w' s => ⟨rfl, s.below⟩
  · refine JO.eff (fun _ => _) rfl (Eff.callP rfl (enters Try.func7 (by kernel_rfl) rfl) (hex_calls one1 (by decide))) rfl rfl (fun _ _ _ s => s) (fun _ _ s => s) (fun _ _ => ?_)
    refine JX.ev (i := 44) (by kernel_rfl) _ rfl rfl rfl (Ev.sliceFrom (a := hexL one1) (i := 1) rfl Try.underlying9 rfl (by omega)) ?_
    refine JX.only (i := 37) (by kernel_rfl) ?_
    refine JO.eff (fun g => rdE (.slice (some ⟨g, 0, none⟩) 3 3) ([97, 98, 99].map B8) true :: _) rfl (Eff.weak (Eff.litV (e := 5) (z := B8 0) (xs := [97, 98, 99].map B8) Try.underlying22 (by kernel_rfl) rfl (by decide) rfl (fun u => by kernel_rfl) (by decide)) (fun g w _ s => s.rowRd At.here)) rfl rfl (fun _ _ _ s => s) (fun _ _ s => s.sub (List.sublist_cons_self ..)) (fun g46 _ => ?_)
    refine JX.only (i := 38) (by kernel_rfl) ?_
    refine JO.eff (fun _ => _) rfl (Eff.convR rfl rfl Try.underlying22 Try.underlying5 (by repeat (first | exact At.here | apply At.there))) rfl rfl (fun _ _ _ s => s) (fun _ _ s => s) (fun _ _ => ?_)
    refine JX.only (i := 47) (by kernel_rfl) ?_
    refine JO.eff (fun _ => _) rfl (Eff.callW rfl (enters Try.func5 (by kernel_rfl) rfl) fun w s => digested03_calls _ [97, 98, 99] hT blk1 ((hexL one1).drop 1) nil32 one1 (by decide) (by decide) (by rw [List.length_drop, hh1]; decide) h2 h1 w (rdE_ok s (by repeat (first | exact At.here | apply At.there)))) rfl rfl (fun _ _ _ s => s) (fun _ _ s => s) (fun _ _ => ?_)
    refine JX.ev (i := 48) (by kernel_rfl) _ rfl rfl rfl (Ev.pickT rfl rfl) ?_
    refine JX.ev (i := 49) (by kernel_rfl) _ rfl rfl rfl (Ev.move rfl) ?_
    refine JX.ev (i := 50) (by kernel_rfl) _ rfl rfl rfl (Ev.closed (v := .agg (arr 8 fun _ => U 0)) (fun u w => by kernel_rfl)) ?_
    refine JX.ev (i := 51) (by kernel_rfl) _ rfl rfl rfl (Ev.closed (v := .agg (arr 64 fun i => B8 (byteAt nil64 i))) (fun u w => by kernel_rfl)) ?_
    refine JX.ev (i := 52) (by kernel_rfl) _ rfl rfl rfl (Ev.sliceArr rfl Try.underlying27 (by kernel_rfl)) ?_
    refine JX.ev (i := 53) (by kernel_rfl) _ rfl rfl rfl (Ev.strR (a := one1) rfl Try.underlying22 Try.underlying5 Try.underlying9 (fun w s => rdOk_cells s (by repeat (first | exact At.here | apply At.there)) (by rw [List.length_map, h1]) (bytes_arr _ _ h1))) ?_
    refine JX.ev (i := 57) (by kernel_rfl) _ rfl rfl rfl (Ev.loadAll rfl Try.underlying27 rfl (by repeat (first | exact At.here | apply At.there)) (by kernel_rfl)) ?_
    refine JX.ev (i := 58) (by kernel_rfl) _ rfl rfl rfl (Ev.loadAll rfl Try.underlying27 rfl (by repeat (first | exact At.here | apply At.there)) (by kernel_rfl)) ?_
    refine JX.only (i := 54) (by kernel_rfl) ?_
    refine JO.eff (fun _ => _) rfl (Eff.callP rfl (enters Try.func7 (by kernel_rfl) rfl) (hex_calls one1 (by decide))) rfl rfl (fun _ _ _ s => s) (fun _ _ s => s) (fun _ _ => ?_)
    refine JX.ev (i := 55) (by kernel_rfl) _ rfl rfl rfl (Ev.sliceTo (a := hexL one1) (j := 63) rfl Try.underlying9 rfl (by omega)) ?_
    refine JX.ev (i := 56) (by kernel_rfl) _ rfl rfl rfl (Ev.addS (a := (hexL one1).take 63) (b := [70]) rfl rfl (by rw [List.length_take, hh1]; decide)) ?_
    refine JX.only (i := 59) (by kernel_rfl) ?_
    refine JO.eff (fun _ => _) rfl (Eff.callW rfl (enters Try.func5 (by kernel_rfl) rfl) fun w s => digested03_calls _ [] (fun _ => 0) nil64 ((hexL one1).take 63 ++ [70]) one1 one1 (by decide) (by decide) (by rw [List.length_append, List.length_take, hh1]; decide) h1 h1 w (.inl ⟨rfl, rfl⟩)) rfl rfl (fun _ _ _ s => s) (fun _ _ s => s) (fun _ _ => ?_)
    refine JX.ev (i := 60) (by kernel_rfl) _ rfl rfl rfl (Ev.pickT rfl rfl) ?_
    refine JX.tail (τ := [61]) (by kernel_rfl) ?_
    refine JT.ev _ rfl rfl rfl (Ev.assign rfl) ?_
    refine JT.nil (JE.np ?_)
    refine JE.next ?_
    refine J.ret ?_
    exact JE.ret1 _ rfl rfl fun w' s => ⟨rfl, s.below⟩
theorem topDigested_calls (v : Value) (bs : List UInt8) (H : Nat → BitVec 32) (lb s lx ly : List UInt8) (hlb : lb.length = 64) (hlx : lx.length = 32) (hly : ly.length = 32) (w : World) (hrd : rdOk v (bs.map B8) w) :
    Calls Try.prog 3 #[v, .agg (arr 8 fun i => U (H i)), .agg (arr 64 fun i => B8 (byteAt lb i)), S s, .agg (arr 32 fun i => B8 (byteAt lx i)), .agg (arr 32 fun i => B8 (byteAt ly i))] w (Pure1 w (.bool true)) := by
  refine enter (args := [v, .agg (arr 8 fun i => U (H i)), .agg (arr 64 fun i => B8 (byteAt lb i)), S s, .agg (arr 32 fun i => B8 (byteAt lx i)), .agg (arr 32 fun i => B8 (byteAt ly i))]) 32 Try.func3 rfl rfl (by simp) ?_
  refine J.withRd hrd ?_
  refine J.seq ?_
  refine J.region ?_
  refine JL.eff (Eff.boxA rfl) rfl rfl (fun g7 _ => ?_)
  refine JL.eff (Eff.boxA rfl) rfl rfl (fun g8 _ => ?_)
  refine JL.eff (Eff.boxA rfl) rfl rfl (fun g10 _ => ?_)
  refine JL.eff (Eff.boxA rfl) rfl rfl (fun g11 _ => ?_)
  refine JL.ev _ rfl rfl (Ev.assign rfl) ?_
  refine JL.nil ?_
  refine JE.next ?_
  refine J.seq ?_
  refine J.seq ?_
  refine J.region ?_
  refine JL.ev _ rfl rfl (Ev.move rfl) ?_
  refine JL.ev _ rfl rfl (Ev.lenR rfl Try.underlying22 (by repeat (first | exact At.here | apply At.there))) ?_
  refine JL.ev _ rfl rfl (Ev.gtr rfl rfl rfl) ?_
  refine JL.ev _ rfl rfl (Ev.move rfl) ?_
  cases hb200 : decide ((200 : Int) < ((bs.map B8).length : Int))
  · refine JL.ev _ rfl rfl (Ev.move rfl) ?_
    refine JL.ev _ rfl rfl (Ev.lenS rfl Try.underlying9) ?_
    refine JL.ev _ rfl rfl (Ev.gtr rfl rfl rfl) ?_
    refine JL.ev _ rfl rfl (Ev.pickF rfl rfl) ?_
    refine JL.nil ?_
    refine JE.next ?_
    refine J.cond _ rfl (fun ht20 => ?_) (fun ht20 => ?_)
    · try replace ht20 := of_decide_eq_true ht20
      refine J.seq ?_
      refine J.region ?_
      refine JL.eff (Eff.callP rfl (enters Try.func4 (by kernel_rfl) rfl) (knows03_calls)) rfl rfl (fun _ _ => ?_)
      refine JL.ev _ rfl rfl (Ev.assign rfl) ?_
      refine JL.nil ?_
      refine JE.next ?_
      refine J.ret ?_
      refine JE.thenRet ?_
      exact JE.ret1 _ rfl rfl fun w' s => ⟨rfl, s.below⟩
    · try replace ht20 := of_decide_eq_false ht20
      have q200 := of_decide_eq_false hb200
      rw [List.length_map] at q200
      refine J.skip ?_
      refine JE.next ?_
      refine J.seq ?_
      refine J.region ?_
      refine JL.ev _ rfl rfl (Ev.move rfl) ?_
      refine JL.ev _ rfl rfl (Ev.loadAll rfl Try.underlying24 rfl (by repeat (first | exact At.here | apply At.there)) (by kernel_rfl)) ?_
      refine JL.ev _ rfl rfl (Ev.loadAll rfl Try.underlying25 rfl (by repeat (first | exact At.here | apply At.there)) (by kernel_rfl)) ?_
      refine JL.ev _ rfl rfl (Ev.move rfl) ?_
      refine JL.ev _ rfl rfl (Ev.loadAll rfl Try.underlying27 rfl (by repeat (first | exact At.here | apply At.there)) (by kernel_rfl)) ?_
      refine JL.ev _ rfl rfl (Ev.loadAll rfl Try.underlying27 rfl (by repeat (first | exact At.here | apply At.there)) (by kernel_rfl)) ?_
      refine JL.eff (Eff.callW rfl (enters Try.func5 (by kernel_rfl) rfl) fun w s' => digested03_calls v bs H lb s lx ly (by omega) hlb (by omega) hlx hly w (rdE_ok s' (by repeat (first | exact At.here | apply At.there)))) rfl rfl (fun _ _ => ?_)
      refine JL.ev _ rfl rfl (Ev.move rfl) ?_
      refine JL.eff (Eff.callP rfl (enters Try.func4 (by kernel_rfl) rfl) (knows03_calls)) rfl rfl (fun _ _ => ?_)
      refine JL.ev _ rfl rfl (Ev.pickT rfl rfl) ?_
      refine JL.ev _ rfl rfl (Ev.assign rfl) ?_
      refine JL.nil ?_
      refine JE.next ?_
      refine J.ret ?_
      exact JE.ret1 _ rfl rfl fun w' s => ⟨rfl, s.below⟩
  · refine JL.off rfl rfl ?_
    refine JL.off rfl rfl ?_
    refine JL.off rfl rfl ?_
    refine JL.ev _ rfl rfl (Ev.pickT rfl rfl) ?_
    refine JL.nil ?_
    refine JE.next ?_
    refine J.condT rfl (rfl) ?_
    refine J.seq ?_
    refine J.region ?_
    refine JL.eff (Eff.callP rfl (enters Try.func4 (by kernel_rfl) rfl) (knows03_calls)) rfl rfl (fun _ _ => ?_)
    refine JL.ev _ rfl rfl (Ev.assign rfl) ?_
    refine JL.nil ?_
    refine JE.next ?_
    refine J.ret ?_
    refine JE.thenRet ?_
    exact JE.ret1 _ rfl rfl fun w' s => ⟨rfl, s.below⟩
end Go.Proofs.Ytimokikpnngikaa
