/- The walks of the small functions: turns, bits, words, mixes, choices. -/
import Derived.Test.YtimokikpnngikaaProg
import Derived.Test.YtimokikpnngikaaD1
namespace Go.Proofs.Ytimokikpnngikaa
open Go Go.RowKit Go.Proofs Go.Fw Go.Dig
theorem turned_calls (x : BitVec 32) (m : Int) (h0 : 0 ≤ m) (h1 : m ≤ 32) (w : World) : Calls Try.prog 23 #[U x, .int .i64 m] w (Pure1 w (U (rotr x m.toNat))) := by
  rw [show rotr x m.toNat = (x >>> m.toNat) ||| (x <<< (32 - m).toNat) by unfold rotr; rw [show (32 - m).toNat = 32 - m.toNat by omega]]
  refine enter (args := [U x, .int .i64 m]) 13 Try.func23 rfl rfl (by simp) ?_
  refine J.seq ?_
  refine J.region ?_
  refine JL.ev (U 0) rfl rfl (Ev.assign rfl) ?_
  refine JL.nil ?_
  refine JE.next ?_
  refine J.seq ?_
  refine J.draw [(0, true), (1, true), (2, true), (3, true), (4, true), (5, true), (6, true), (7, true)] [8] (by kernel_rfl) (by kernel_rfl) ?_
  refine JD.ev _ rfl rfl rfl (Ev.move rfl) ?_
  refine JD.ev _ rfl rfl rfl (Ev.move rfl) ?_
  refine JD.ev _ rfl rfl rfl (Ev.shrU rfl rfl (by omega)) ?_
  refine JD.ev _ rfl rfl rfl (Ev.move rfl) ?_
  refine JD.ev _ rfl rfl rfl (Ev.move rfl) ?_
  refine JD.ev _ rfl rfl rfl (Ev.sub rfl rfl (i64_in (by omega) (by omega))) ?_
  refine JD.ev _ rfl rfl rfl (Ev.shlU rfl rfl (by omega)) ?_
  refine JD.ev _ rfl rfl rfl (Ev.orU rfl rfl) ?_
  refine JD.tail ?_
  refine JT.ev _ rfl rfl rfl (Ev.assign rfl) ?_
  refine JT.nil (JE.np ?_)
  refine JE.next ?_
  refine J.ret ?_
  exact JE.ret1 _ rfl rfl fun w' s => ⟨rfl, s.below⟩
theorem pushed_calls (x : BitVec 32) (m : Int) (h0 : 0 ≤ m) (w : World) : Calls Try.prog 22 #[U x, .int .i64 m] w (Pure1 w (U (x >>> m.toNat))) := by
  refine enter (args := [U x, .int .i64 m]) 8 Try.func22 rfl rfl (by simp) ?_
  refine J.seq ?_
  refine J.region ?_
  refine JL.ev (U 0) rfl rfl (Ev.assign rfl) ?_
  refine JL.nil ?_
  refine JE.next ?_
  refine J.seq ?_
  refine J.region ?_
  refine JL.ev _ rfl rfl (Ev.move rfl) ?_
  refine JL.ev _ rfl rfl (Ev.move rfl) ?_
  refine JL.ev _ rfl rfl (Ev.shrU rfl rfl (by omega)) ?_
  refine JL.ev _ rfl rfl (Ev.assign rfl) ?_
  refine JL.nil ?_
  refine JE.next ?_
  refine J.ret ?_
  exact JE.ret1 _ rfl rfl fun w' s => ⟨rfl, s.below⟩
theorem bits_calls (x : BitVec 32) (w : World) : Calls Try.prog 30 #[U x] w (Pure1 w (.agg (arr 32 (bitOf x.getLsbD)))) := by
  refine enter (args := [U x]) 17 Try.func30 rfl rfl (by simp) ?_
  refine J.seq ?_
  refine J.region ?_
  refine JL.eff (Eff.allocA 32 (fun _ => .int .i64 0) (by kernel_rfl)) rfl rfl (fun g2 _ => ?_)
  refine JL.nil ?_
  refine JE.next ?_
  refine J.seq ?_
  refine J.region ?_
  refine JL.eff (Eff.allocA 32 (fun _ => .int .i64 0) (by kernel_rfl)) rfl rfl (fun g3 _ => ?_)
  refine JL.nil ?_
  refine JE.next ?_
  refine J.seq ?_
  refine J.seq ?_
  refine J.region ?_
  refine JL.ev _ rfl rfl (Ev.move rfl) ?_
  refine JL.nil ?_
  refine JE.next ?_
  refine J.block ?_
  refine J.loop (σ := Nat) (fun k => k ≤ 32) (fun k => [(0, U x), (2, .pointer (some ⟨g2, 0, none⟩)), (3, .pointer (some ⟨g3, 0, none⟩)), (5, .int .i64 k)]) (fun k => [cells g3 (arr 32 (bitsTo x.getLsbD k)) 65, cells g2 (arr 32 (fun _ => .int .i64 0)) 65]) (fun k => 32 - k) 0 (by omega) ⟨rfl, rfl, rfl, rfl, trivial⟩ (fun w s => by rw [bitsTo_zero]; exact s) ?_
  intro k hk
  have hb := bit_one x k
  have hbd := bi_bd (x.getLsbD k)
  refine J.seq ?_
  refine J.region ?_
  refine JL.ev _ rfl rfl (Ev.lss rfl rfl rfl) ?_
  refine JL.nil ?_
  refine JE.next ?_
  refine J.seq ?_
  refine J.cond _ rfl (fun ht6 => ?_) (fun ht6 => ?_)
  · try replace ht6 := of_decide_eq_true ht6
    refine J.skip ?_
    refine JE.next ?_
    refine J.seq ?_
    refine J.block ?_
    refine J.seq ?_
    refine J.region ?_
    refine JL.ev _ rfl rfl (Ev.move rfl) ?_
    refine JL.ev _ rfl rfl (Ev.assign rfl) ?_
    refine JL.nil ?_
    refine JE.next ?_
    refine J.region ?_
    refine JL.ev _ rfl rfl (Ev.move rfl) ?_
    refine JL.ev _ rfl rfl (Ev.move rfl) ?_
    refine JL.ev _ rfl rfl (Ev.move rfl) ?_
    refine JL.ev _ rfl rfl (Ev.shrU rfl rfl (by omega)) ?_
    refine JL.ev _ rfl rfl (Ev.andU (b := 1) rfl rfl) ?_
    refine JL.ev _ rfl rfl (Ev.conv rfl Try.underlying23 Try.underlying3 (r := bi (x.getLsbD k)) (by rw [i64_in (by omega) (by omega)]; simpa using hb)) ?_
    refine JL.ev _ rfl rfl (Ev.indexAddrA rfl rfl Try.underlying65 (by kernel_rfl) (by omega) (by omega) (by first | exact idx0 _ | exact Nat.zero_add _)) ?_
    refine JL.eff0 (Eff.storeA rfl rfl rfl (by kernel_rfl) (by repeat (first | exact At.here | apply At.there)) (by omega)) rfl rfl (fun _ _ => ?_)
    refine JL.nil ?_
    refine JE.blockNormal ?_
    refine JE.next ?_
    refine J.region ?_
    refine JL.ev _ rfl rfl (Ev.add rfl rfl (i64_in (by omega) (by omega))) ?_
    refine JL.ev _ rfl rfl (Ev.move rfl) ?_
    refine JL.nil ?_
    exact JE.back (k + 1) (by omega) (by omega) ⟨rfl, rfl, rfl, rfl, trivial⟩ (fun w s => by rw [← bitsTo_t x.getLsbD k _ rfl]; exact s)
  · try replace ht6 := of_decide_eq_false ht6
    refine J.exit ?_
    refine JE.thenExit ?_
    refine JE.thenExit ?_
    refine JE.blockHere ?_
    refine JE.next ?_
    refine J.seq ?_
    refine J.region ?_
    refine JL.ev _ rfl rfl (Ev.loadAll rfl Try.underlying65 rfl (by repeat (first | exact At.here | apply At.there)) (by kernel_rfl)) ?_
    refine JL.eff0 (Eff.storeAll rfl rfl (by kernel_rfl) (bitsTo_one _ _) (by repeat (first | exact At.here | apply At.there))) rfl rfl (fun _ _ => ?_)
    refine JL.nil ?_
    refine JE.next ?_
    refine J.ret ?_
    obtain rfl : k = 32 := by omega
    exact JE.retCell rfl rfl (by repeat (first | exact At.here | apply At.there)) Try.underlying65 rfl (by kernel_rfl) fun w' s => ⟨by rw [bitsTo_all], s.below⟩
theorem word_calls (f : Nat → Bool) (w : World) : Calls Try.prog 31 #[.agg (arr 32 (bitOf f))] w (Pure1 w (U (wordOf f))) := by
  refine enter (args := [.agg (arr 32 (bitOf f))]) 19 Try.func31 rfl rfl (by simp) ?_
  refine J.seq ?_
  refine J.region ?_
  refine JL.eff (Eff.boxA rfl) rfl rfl (fun g1 _ => ?_)
  refine JL.ev (U 0) rfl rfl (Ev.assign rfl) ?_
  refine JL.nil ?_
  refine JE.next ?_
  refine J.seq ?_
  refine J.region ?_
  refine JL.ev (U 0) rfl rfl (Ev.assign rfl) ?_
  refine JL.nil ?_
  refine JE.next ?_
  refine J.seq ?_
  refine J.seq ?_
  refine J.region ?_
  refine JL.ev _ rfl rfl (Ev.loadAll rfl Try.underlying65 rfl (by repeat (first | exact At.here | apply At.there)) (by kernel_rfl)) ?_
  refine JL.ev _ rfl rfl (Ev.move rfl) ?_
  refine JL.nil ?_
  refine JE.next ?_
  refine J.block ?_
  refine J.loop (σ := Nat) (fun k => k ≤ 32) (fun k => [(3, U (wTo f k)), (6, .agg (arr 32 (bitOf f))), (7, .int .i64 k)]) (fun k => []) (fun k => 32 - k) 0 (by omega) ⟨rfl, rfl, rfl, trivial⟩ (fun w s => s.sub (List.nil_sublist _)) ?_
  intro k hk
  have hbd := bi_bd (f k)
  refine J.seq ?_
  refine J.region ?_
  refine JL.ev _ rfl rfl (Ev.lss rfl rfl rfl) ?_
  refine JL.nil ?_
  refine JE.next ?_
  refine J.seq ?_
  refine J.cond _ rfl (fun ht8 => ?_) (fun ht8 => ?_)
  · try replace ht8 := of_decide_eq_true ht8
    refine J.skip ?_
    refine JE.next ?_
    refine J.seq ?_
    refine J.block ?_
    refine J.seq ?_
    refine J.region ?_
    refine JL.ev _ rfl rfl (Ev.move rfl) ?_
    refine JL.ev _ rfl rfl (Ev.indexArr rfl rfl Try.underlying65 (by kernel_rfl) Try.underlying3 rfl (by omega) (by omega) (j := k) (by omega)) ?_
    refine JL.ev _ rfl rfl (Ev.assign rfl) ?_
    refine JL.ev _ rfl rfl (Ev.assign rfl) ?_
    refine JL.nil ?_
    refine JE.next ?_
    refine J.region ?_
    refine JL.ev _ rfl rfl (Ev.move rfl) ?_
    refine JL.ev _ rfl rfl (Ev.move rfl) ?_
    refine JL.ev _ rfl rfl (Ev.convU (a := if f k then 1#32 else 0#32) rfl Try.underlying3 Try.underlying23 (by rw [u32_in (by omega) (by omega)]; unfold bi; split <;> rfl)) ?_
    refine JL.ev _ rfl rfl (Ev.move rfl) ?_
    refine JL.ev _ rfl rfl (Ev.shlU rfl rfl (by omega)) ?_
    refine JL.ev _ rfl rfl (Ev.orU rfl rfl) ?_
    refine JL.ev _ rfl rfl (Ev.assign rfl) ?_
    refine JL.nil ?_
    refine JE.blockNormal ?_
    refine JE.next ?_
    refine J.region ?_
    refine JL.ev _ rfl rfl (Ev.add rfl rfl (i64_in (by omega) (by omega))) ?_
    refine JL.ev _ rfl rfl (Ev.move rfl) ?_
    refine JL.nil ?_
    exact JE.back (k + 1) (by omega) (by omega) ⟨rfl, rfl, rfl, trivial⟩ (fun w s => s)
  · try replace ht8 := of_decide_eq_false ht8
    refine J.exit ?_
    refine JE.thenExit ?_
    refine JE.thenExit ?_
    refine JE.blockHere ?_
    refine JE.next ?_
    refine J.seq ?_
    refine J.region ?_
    refine JL.ev _ rfl rfl (Ev.move rfl) ?_
    refine JL.ev _ rfl rfl (Ev.assign rfl) ?_
    refine JL.nil ?_
    refine JE.next ?_
    refine J.ret ?_
    obtain rfl : k = 32 := by omega
    exact JE.ret1 _ rfl rfl fun w' s => ⟨rfl, s.below⟩
theorem mixT_calls (x : BitVec 32) (a b c : Nat) (ha : a ≤ 32) (hb : b ≤ 32) (hc : c ≤ 32) (w : World) : Calls Try.prog 25 #[U x, .int .i64 a, .int .i64 b, .int .i64 c, .bool false] w (Pure1 w (U (mixT a b c x))) := by
  rw [← word_xT x a b c ha hb hc]
  refine enter (args := [U x, .int .i64 a, .int .i64 b, .int .i64 c, .bool false]) 56 Try.func25 rfl rfl (by simp) ?_
  refine J.seq ?_
  refine J.region ?_
  refine JL.ev (U 0) rfl rfl (Ev.assign rfl) ?_
  refine JL.nil ?_
  refine JE.next ?_
  refine J.seq ?_
  refine J.region ?_
  refine JL.ev _ rfl rfl (Ev.move rfl) ?_
  refine JL.eff (Eff.callP rfl (enters Try.func30 (by kernel_rfl) rfl) (bits_calls _)) rfl rfl (fun _ _ => ?_)
  refine JL.eff (Eff.allocA 32 (fun _ => .int .i64 0) (by kernel_rfl)) rfl rfl (fun g11 _ => ?_)
  refine JL.eff0 (Eff.storeAll rfl rfl (by kernel_rfl) (fun _ => rfl) (by repeat (first | exact At.here | apply At.there))) rfl rfl (fun _ _ => ?_)
  refine JL.nil ?_
  refine JE.next ?_
  refine J.seq ?_
  refine J.region ?_
  refine JL.eff (Eff.allocA 32 (fun _ => .int .i64 0) (by kernel_rfl)) rfl rfl (fun g12 _ => ?_)
  refine JL.nil ?_
  refine JE.next ?_
  refine J.seq ?_
  refine J.seq ?_
  refine J.region ?_
  refine JL.ev _ rfl rfl (Ev.move rfl) ?_
  refine JL.nil ?_
  refine JE.next ?_
  refine J.block ?_
  refine J.loop (σ := Nat) (fun k => k ≤ 32) (fun k => [(1, .int .i64 a), (2, .int .i64 b), (3, .int .i64 c), (4, .bool false), (11, .pointer (some ⟨g11, 0, none⟩)), (12, .pointer (some ⟨g12, 0, none⟩)), (17, .int .i64 k)]) (fun k => [cells g12 (arr 32 (bitsTo (xT x a b c) k)) 65, cells g11 (arr 32 (bitOf x.getLsbD)) 65]) (fun k => 32 - k) 0 (by omega) ⟨rfl, rfl, rfl, rfl, rfl, rfl, rfl, trivial⟩ (fun w s => by rw [bitsTo_zero]; exact s) ?_
  intro k hk
  have hb1 := bi_bd (x.getLsbD ((k + a) % 32))
  have hb2 := bi_bd (x.getLsbD ((k + b) % 32))
  have hb3 := bi_bd (x.getLsbD ((k + c) % 32))
  refine J.seq ?_
  refine J.region ?_
  refine JL.ev _ rfl rfl (Ev.lss rfl rfl rfl) ?_
  refine JL.nil ?_
  refine JE.next ?_
  refine J.seq ?_
  refine J.cond _ rfl (fun ht18 => ?_) (fun ht18 => ?_)
  · try replace ht18 := of_decide_eq_true ht18
    refine J.skip ?_
    refine JE.next ?_
    refine J.seq ?_
    refine J.block ?_
    refine J.seq ?_
    refine J.region ?_
    refine JL.ev _ rfl rfl (Ev.move rfl) ?_
    refine JL.ev _ rfl rfl (Ev.assign rfl) ?_
    refine JL.nil ?_
    refine JE.next ?_
    refine J.seq ?_
    refine J.draw [(0, true), (1, true), (2, true), (3, true), (4, true), (5, true), (6, true), (7, true), (8, true), (9, true), (10, true), (11, true), (12, true)] [13] (by kernel_rfl) (by kernel_rfl) ?_
    refine JD.ev _ rfl rfl rfl (Ev.move rfl) ?_
    refine JD.ev _ rfl rfl rfl (Ev.move rfl) ?_
    refine JD.ev _ rfl rfl rfl (Ev.add rfl rfl (i64_in (by omega) (by omega))) ?_
    refine JD.ev _ rfl rfl rfl (Ev.rem rfl rfl (by omega) (tmod_nn (by omega))) ?_
    refine JD.ev _ rfl rfl rfl (Ev.indexAddrA rfl rfl Try.underlying65 (by kernel_rfl) (by omega) (by omega) (j := (k + a) % 32) (by omega)) ?_
    refine JD.ev _ rfl rfl rfl (Ev.loadA rfl Try.underlying3 rfl (by repeat (first | exact At.here | apply At.there)) (by omega)) ?_
    refine JD.ev _ rfl rfl rfl (Ev.move rfl) ?_
    refine JD.ev _ rfl rfl rfl (Ev.move rfl) ?_
    refine JD.ev _ rfl rfl rfl (Ev.add rfl rfl (i64_in (by omega) (by omega))) ?_
    refine JD.ev _ rfl rfl rfl (Ev.rem rfl rfl (by omega) (tmod_nn (by omega))) ?_
    refine JD.ev _ rfl rfl rfl (Ev.indexAddrA rfl rfl Try.underlying65 (by kernel_rfl) (by omega) (by omega) (j := (k + b) % 32) (by omega)) ?_
    refine JD.ev _ rfl rfl rfl (Ev.loadA rfl Try.underlying3 rfl (by repeat (first | exact At.here | apply At.there)) (by omega)) ?_
    refine JD.ev _ rfl rfl rfl (Ev.add rfl rfl (i64_in (by omega) (by omega))) ?_
    refine JD.tail ?_
    refine JT.ev _ rfl rfl rfl (Ev.assign rfl) ?_
    refine JT.nil (JE.np ?_)
    refine JE.next ?_
    refine J.seq ?_
    refine J.seq ?_
    refine J.region ?_
    refine JL.ev _ rfl rfl (Ev.move rfl) ?_
    refine JL.ev _ rfl rfl (Ev.not rfl rfl) ?_
    refine JL.ev _ rfl rfl (Ev.move rfl) ?_
    refine JL.off rfl rfl ?_
    refine JL.off rfl rfl ?_
    refine JL.off rfl rfl ?_
    refine JL.off rfl rfl ?_
    refine JL.ev _ rfl rfl (Ev.pickT rfl rfl) ?_
    refine JL.nil ?_
    refine JE.next ?_
    refine J.condT rfl (rfl) ?_
    refine J.region ?_
    refine JL.ev _ rfl rfl (Ev.move rfl) ?_
    refine JL.ev _ rfl rfl (Ev.move rfl) ?_
    refine JL.ev _ rfl rfl (Ev.move rfl) ?_
    refine JL.ev _ rfl rfl (Ev.add rfl rfl (i64_in (by omega) (by omega))) ?_
    refine JL.ev _ rfl rfl (Ev.rem rfl rfl (by omega) (tmod_nn (by omega))) ?_
    refine JL.ev _ rfl rfl (Ev.indexAddrA rfl rfl Try.underlying65 (by kernel_rfl) (by omega) (by omega) (j := (k + c) % 32) (by omega)) ?_
    refine JL.ev _ rfl rfl (Ev.loadA rfl Try.underlying3 rfl (by repeat (first | exact At.here | apply At.there)) (by omega)) ?_
    refine JL.ev _ rfl rfl (Ev.add rfl rfl (i64_in (by omega) (by omega))) ?_
    refine JL.ev _ rfl rfl (Ev.assign rfl) ?_
    refine JL.nil ?_
    refine JE.next ?_
    refine J.region ?_
    refine JL.ev _ rfl rfl (Ev.move rfl) ?_
    refine JL.ev _ rfl rfl (Ev.move rfl) ?_
    refine JL.ev _ rfl rfl (Ev.rem (r := bi (xT x a b c k)) rfl rfl (by omega) (by rw [tmod_nn (by omega)]; exact xor3 _ _ _)) ?_
    refine JL.ev _ rfl rfl (Ev.indexAddrA rfl rfl Try.underlying65 (by kernel_rfl) (by omega) (by omega) (by first | exact idx0 _ | exact Nat.zero_add _)) ?_
    refine JL.eff0 (Eff.storeA rfl rfl rfl (by kernel_rfl) (by repeat (first | exact At.here | apply At.there)) (by omega)) rfl rfl (fun _ _ => ?_)
    refine JL.nil ?_
    refine JE.blockNormal ?_
    refine JE.next ?_
    refine J.region ?_
    refine JL.ev _ rfl rfl (Ev.add rfl rfl (i64_in (by omega) (by omega))) ?_
    refine JL.ev _ rfl rfl (Ev.move rfl) ?_
    refine JL.nil ?_
    exact JE.back (k + 1) (by omega) (by omega) ⟨rfl, rfl, rfl, rfl, rfl, rfl, rfl, trivial⟩ (fun w s => by rw [← bitsTo_t (xT x a b c) k _ rfl]; exact s)
  · try replace ht18 := of_decide_eq_false ht18
    refine J.exit ?_
    refine JE.thenExit ?_
    refine JE.thenExit ?_
    refine JE.blockHere ?_
    refine JE.next ?_
    refine J.seq ?_
    refine J.region ?_
    obtain rfl : k = 32 := by omega
    rw [bitsTo_all]
    refine JL.ev _ rfl rfl (Ev.loadAll rfl Try.underlying65 rfl (by repeat (first | exact At.here | apply At.there)) (by kernel_rfl)) ?_
    refine JL.eff (Eff.callP rfl (enters Try.func31 (by kernel_rfl) rfl) (word_calls _)) rfl rfl (fun _ _ => ?_)
    refine JL.ev _ rfl rfl (Ev.assign rfl) ?_
    refine JL.nil ?_
    refine JE.next ?_
    refine J.ret ?_
    exact JE.ret1 _ rfl rfl fun w' s => ⟨rfl, s.below⟩
theorem mixP_calls (x : BitVec 32) (a b c : Nat) (ha : a ≤ 32) (hb : b ≤ 32) (hc : c ≤ 32) (w : World) : Calls Try.prog 25 #[U x, .int .i64 a, .int .i64 b, .int .i64 c, .bool true] w (Pure1 w (U (mixP a b c x))) := by
  rw [← word_xP x a b c ha hb]
  refine enter (args := [U x, .int .i64 a, .int .i64 b, .int .i64 c, .bool true]) 56 Try.func25 rfl rfl (by simp) ?_
  refine J.seq ?_
  refine J.region ?_
  refine JL.ev (U 0) rfl rfl (Ev.assign rfl) ?_
  refine JL.nil ?_
  refine JE.next ?_
  refine J.seq ?_
  refine J.region ?_
  refine JL.ev _ rfl rfl (Ev.move rfl) ?_
  refine JL.eff (Eff.callP rfl (enters Try.func30 (by kernel_rfl) rfl) (bits_calls _)) rfl rfl (fun _ _ => ?_)
  refine JL.eff (Eff.allocA 32 (fun _ => .int .i64 0) (by kernel_rfl)) rfl rfl (fun g11 _ => ?_)
  refine JL.eff0 (Eff.storeAll rfl rfl (by kernel_rfl) (fun _ => rfl) (by repeat (first | exact At.here | apply At.there))) rfl rfl (fun _ _ => ?_)
  refine JL.nil ?_
  refine JE.next ?_
  refine J.seq ?_
  refine J.region ?_
  refine JL.eff (Eff.allocA 32 (fun _ => .int .i64 0) (by kernel_rfl)) rfl rfl (fun g12 _ => ?_)
  refine JL.nil ?_
  refine JE.next ?_
  refine J.seq ?_
  refine J.seq ?_
  refine J.region ?_
  refine JL.ev _ rfl rfl (Ev.move rfl) ?_
  refine JL.nil ?_
  refine JE.next ?_
  refine J.block ?_
  refine J.loop (σ := Nat) (fun k => k ≤ 32) (fun k => [(1, .int .i64 a), (2, .int .i64 b), (3, .int .i64 c), (4, .bool true), (11, .pointer (some ⟨g11, 0, none⟩)), (12, .pointer (some ⟨g12, 0, none⟩)), (17, .int .i64 k)]) (fun k => [cells g12 (arr 32 (bitsTo (xP x a b c) k)) 65, cells g11 (arr 32 (bitOf x.getLsbD)) 65]) (fun k => 32 - k) 0 (by omega) ⟨rfl, rfl, rfl, rfl, rfl, rfl, rfl, trivial⟩ (fun w s => by rw [bitsTo_zero]; exact s) ?_
  intro k hk
  have hb1 := bi_bd (x.getLsbD ((k + a) % 32))
  have hb2 := bi_bd (x.getLsbD ((k + b) % 32))
  have hb3 := bi_bd (x.getLsbD (k + c))
  refine J.seq ?_
  refine J.region ?_
  refine JL.ev _ rfl rfl (Ev.lss rfl rfl rfl) ?_
  refine JL.nil ?_
  refine JE.next ?_
  refine J.seq ?_
  refine J.cond _ rfl (fun ht18 => ?_) (fun ht18 => ?_)
  · try replace ht18 := of_decide_eq_true ht18
    refine J.skip ?_
    refine JE.next ?_
    refine J.seq ?_
    refine J.block ?_
    refine J.seq ?_
    refine J.region ?_
    refine JL.ev _ rfl rfl (Ev.move rfl) ?_
    refine JL.ev _ rfl rfl (Ev.assign rfl) ?_
    refine JL.nil ?_
    refine JE.next ?_
    refine J.seq ?_
    refine J.draw [(0, true), (1, true), (2, true), (3, true), (4, true), (5, true), (6, true), (7, true), (8, true), (9, true), (10, true), (11, true), (12, true)] [13] (by kernel_rfl) (by kernel_rfl) ?_
    refine JD.ev _ rfl rfl rfl (Ev.move rfl) ?_
    refine JD.ev _ rfl rfl rfl (Ev.move rfl) ?_
    refine JD.ev _ rfl rfl rfl (Ev.add rfl rfl (i64_in (by omega) (by omega))) ?_
    refine JD.ev _ rfl rfl rfl (Ev.rem rfl rfl (by omega) (tmod_nn (by omega))) ?_
    refine JD.ev _ rfl rfl rfl (Ev.indexAddrA rfl rfl Try.underlying65 (by kernel_rfl) (by omega) (by omega) (j := (k + a) % 32) (by omega)) ?_
    refine JD.ev _ rfl rfl rfl (Ev.loadA rfl Try.underlying3 rfl (by repeat (first | exact At.here | apply At.there)) (by omega)) ?_
    refine JD.ev _ rfl rfl rfl (Ev.move rfl) ?_
    refine JD.ev _ rfl rfl rfl (Ev.move rfl) ?_
    refine JD.ev _ rfl rfl rfl (Ev.add rfl rfl (i64_in (by omega) (by omega))) ?_
    refine JD.ev _ rfl rfl rfl (Ev.rem rfl rfl (by omega) (tmod_nn (by omega))) ?_
    refine JD.ev _ rfl rfl rfl (Ev.indexAddrA rfl rfl Try.underlying65 (by kernel_rfl) (by omega) (by omega) (j := (k + b) % 32) (by omega)) ?_
    refine JD.ev _ rfl rfl rfl (Ev.loadA rfl Try.underlying3 rfl (by repeat (first | exact At.here | apply At.there)) (by omega)) ?_
    refine JD.ev _ rfl rfl rfl (Ev.add rfl rfl (i64_in (by omega) (by omega))) ?_
    refine JD.tail ?_
    refine JT.ev _ rfl rfl rfl (Ev.assign rfl) ?_
    refine JT.nil (JE.np ?_)
    refine JE.next ?_
    refine J.seq ?_
    refine J.seq ?_
    refine J.region ?_
    refine JL.ev _ rfl rfl (Ev.move rfl) ?_
    refine JL.ev _ rfl rfl (Ev.not rfl rfl) ?_
    refine JL.ev _ rfl rfl (Ev.move rfl) ?_
    refine JL.ev _ rfl rfl (Ev.move rfl) ?_
    refine JL.ev _ rfl rfl (Ev.move rfl) ?_
    refine JL.ev _ rfl rfl (Ev.add rfl rfl (i64_in (by omega) (by omega))) ?_
    refine JL.ev _ rfl rfl (Ev.lss rfl rfl rfl) ?_
    refine JL.ev _ rfl rfl (Ev.pickF rfl rfl) ?_
    refine JL.nil ?_
    refine JE.next ?_
    refine J.cond _ rfl (fun ht40 => ?_) (fun ht40 => ?_)
    · try replace ht40 := of_decide_eq_true ht40
      refine J.region ?_
      refine JL.ev _ rfl rfl (Ev.move rfl) ?_
      refine JL.ev _ rfl rfl (Ev.move rfl) ?_
      refine JL.ev _ rfl rfl (Ev.move rfl) ?_
      refine JL.ev _ rfl rfl (Ev.add rfl rfl (i64_in (by omega) (by omega))) ?_
      refine JL.ev _ rfl rfl (Ev.rem rfl rfl (by omega) (tmod_nn (by omega))) ?_
      refine JL.ev _ rfl rfl (Ev.indexAddrA rfl rfl Try.underlying65 (by kernel_rfl) (by omega) (by omega) (j := k + c) (by omega)) ?_
      refine JL.ev _ rfl rfl (Ev.loadA rfl Try.underlying3 rfl (by repeat (first | exact At.here | apply At.there)) (by omega)) ?_
      refine JL.ev _ rfl rfl (Ev.add rfl rfl (i64_in (by omega) (by omega))) ?_
      refine JL.ev _ rfl rfl (Ev.assign rfl) ?_
      refine JL.nil ?_
      refine JE.next ?_
      refine J.region ?_
      refine JL.ev _ rfl rfl (Ev.move rfl) ?_
      refine JL.ev _ rfl rfl (Ev.move rfl) ?_
      first
      | refine JL.ev _ rfl rfl (Ev.rem (r := bi (xP x a b c k)) rfl rfl (by omega) (by rw [tmod_nn (by omega)]; exact xor3 _ _ _)) ?_
      | refine JL.ev _ rfl rfl (Ev.rem (r := bi (xP x a b c k)) rfl rfl (by omega) (by rw [tmod_nn (by omega), xor2, xP, BitVec.getLsbD_of_ge x (k + c) (by omega), Bool.xor_false])) ?_
      refine JL.ev _ rfl rfl (Ev.indexAddrA rfl rfl Try.underlying65 (by kernel_rfl) (by omega) (by omega) (by first | exact idx0 _ | exact Nat.zero_add _)) ?_
      refine JL.eff0 (Eff.storeA rfl rfl rfl (by kernel_rfl) (by repeat (first | exact At.here | apply At.there)) (by omega)) rfl rfl (fun _ _ => ?_)
      refine JL.nil ?_
      refine JE.blockNormal ?_
      refine JE.next ?_
      refine J.region ?_
      refine JL.ev _ rfl rfl (Ev.add rfl rfl (i64_in (by omega) (by omega))) ?_
      refine JL.ev _ rfl rfl (Ev.move rfl) ?_
      refine JL.nil ?_
      exact JE.back (k + 1) (by omega) (by omega) ⟨rfl, rfl, rfl, rfl, rfl, rfl, rfl, trivial⟩ (fun w s => by rw [← bitsTo_t (xP x a b c) k _ rfl]; exact s)
    · try replace ht40 := of_decide_eq_false ht40
      refine J.skip ?_
      refine JE.next ?_
      refine J.region ?_
      refine JL.ev _ rfl rfl (Ev.move rfl) ?_
      refine JL.ev _ rfl rfl (Ev.move rfl) ?_
      first
      | refine JL.ev _ rfl rfl (Ev.rem (r := bi (xP x a b c k)) rfl rfl (by omega) (by rw [tmod_nn (by omega)]; exact xor3 _ _ _)) ?_
      | refine JL.ev _ rfl rfl (Ev.rem (r := bi (xP x a b c k)) rfl rfl (by omega) (by rw [tmod_nn (by omega), xor2, xP, BitVec.getLsbD_of_ge x (k + c) (by omega), Bool.xor_false])) ?_
      refine JL.ev _ rfl rfl (Ev.indexAddrA rfl rfl Try.underlying65 (by kernel_rfl) (by omega) (by omega) (by first | exact idx0 _ | exact Nat.zero_add _)) ?_
      refine JL.eff0 (Eff.storeA rfl rfl rfl (by kernel_rfl) (by repeat (first | exact At.here | apply At.there)) (by omega)) rfl rfl (fun _ _ => ?_)
      refine JL.nil ?_
      refine JE.blockNormal ?_
      refine JE.next ?_
      refine J.region ?_
      refine JL.ev _ rfl rfl (Ev.add rfl rfl (i64_in (by omega) (by omega))) ?_
      refine JL.ev _ rfl rfl (Ev.move rfl) ?_
      refine JL.nil ?_
      exact JE.back (k + 1) (by omega) (by omega) ⟨rfl, rfl, rfl, rfl, rfl, rfl, rfl, trivial⟩ (fun w s => by rw [← bitsTo_t (xP x a b c) k _ rfl]; exact s)
  · try replace ht18 := of_decide_eq_false ht18
    refine J.exit ?_
    refine JE.thenExit ?_
    refine JE.thenExit ?_
    refine JE.blockHere ?_
    refine JE.next ?_
    refine J.seq ?_
    refine J.region ?_
    obtain rfl : k = 32 := by omega
    rw [bitsTo_all]
    refine JL.ev _ rfl rfl (Ev.loadAll rfl Try.underlying65 rfl (by repeat (first | exact At.here | apply At.there)) (by kernel_rfl)) ?_
    refine JL.eff (Eff.callP rfl (enters Try.func31 (by kernel_rfl) rfl) (word_calls _)) rfl rfl (fun _ _ => ?_)
    refine JL.ev _ rfl rfl (Ev.assign rfl) ?_
    refine JL.nil ?_
    refine JE.next ?_
    refine J.ret ?_
    exact JE.ret1 _ rfl rfl fun w' s => ⟨rfl, s.below⟩
theorem mj_calls (a b c : BitVec 32) (w : World) : Calls Try.prog 26 #[U a, U b, U c, .bool true] w (Pure1 w (U (mjW a b c))) := by
  rw [← word_mj a b c]
  refine enter (args := [U a, U b, U c, .bool true]) 66 Try.func26 rfl rfl (by simp) ?_
  refine J.seq ?_
  refine J.region ?_
  refine JL.ev (U 0) rfl rfl (Ev.assign rfl) ?_
  refine JL.nil ?_
  refine JE.next ?_
  refine J.seq ?_
  refine J.region ?_
  refine JL.ev _ rfl rfl (Ev.move rfl) ?_
  refine JL.eff (Eff.callP rfl (enters Try.func30 (by kernel_rfl) rfl) (bits_calls _)) rfl rfl (fun _ _ => ?_)
  refine JL.ev _ rfl rfl (Ev.move rfl) ?_
  refine JL.eff (Eff.callP rfl (enters Try.func30 (by kernel_rfl) rfl) (bits_calls _)) rfl rfl (fun _ _ => ?_)
  refine JL.ev _ rfl rfl (Ev.move rfl) ?_
  refine JL.eff (Eff.callP rfl (enters Try.func30 (by kernel_rfl) rfl) (bits_calls _)) rfl rfl (fun _ _ => ?_)
  refine JL.eff (Eff.allocA 32 (fun _ => .int .i64 0) (by kernel_rfl)) rfl rfl (fun g9 _ => ?_)
  refine JL.eff (Eff.allocA 32 (fun _ => .int .i64 0) (by kernel_rfl)) rfl rfl (fun g10 _ => ?_)
  refine JL.eff (Eff.allocA 32 (fun _ => .int .i64 0) (by kernel_rfl)) rfl rfl (fun g11 _ => ?_)
  refine JL.eff0 (Eff.storeAll rfl rfl (by kernel_rfl) (fun _ => rfl) (by repeat (first | exact At.here | apply At.there))) rfl rfl (fun _ _ => ?_)
  refine JL.eff0 (Eff.storeAll rfl rfl (by kernel_rfl) (fun _ => rfl) (by repeat (first | exact At.here | apply At.there))) rfl rfl (fun _ _ => ?_)
  refine JL.eff0 (Eff.storeAll rfl rfl (by kernel_rfl) (fun _ => rfl) (by repeat (first | exact At.here | apply At.there))) rfl rfl (fun _ _ => ?_)
  refine JL.nil ?_
  refine JE.next ?_
  refine J.seq ?_
  refine J.region ?_
  refine JL.eff (Eff.allocA 32 (fun _ => .int .i64 0) (by kernel_rfl)) rfl rfl (fun g12 _ => ?_)
  refine JL.nil ?_
  refine JE.next ?_
  refine J.seq ?_
  refine J.seq ?_
  refine J.region ?_
  refine JL.ev _ rfl rfl (Ev.move rfl) ?_
  refine JL.nil ?_
  refine JE.next ?_
  refine J.block ?_
  refine J.loop (σ := Nat) (fun k => k ≤ 32) (fun k => [(3, .bool true), (9, .pointer (some ⟨g9, 0, none⟩)), (10, .pointer (some ⟨g10, 0, none⟩)), (11, .pointer (some ⟨g11, 0, none⟩)), (12, .pointer (some ⟨g12, 0, none⟩)), (20, .int .i64 k)]) (fun k => [cells g12 (arr 32 (bitsTo (mjB a b c) k)) 65, cells g11 (arr 32 (bitOf c.getLsbD)) 65, cells g10 (arr 32 (bitOf b.getLsbD)) 65, cells g9 (arr 32 (bitOf a.getLsbD)) 65]) (fun k => 32 - k) 0 (by omega) ⟨rfl, rfl, rfl, rfl, rfl, rfl, trivial⟩ (fun w s => by rw [bitsTo_zero]; exact s) ?_
  intro k hk
  have hb1 := bi_bd (a.getLsbD k)
  have hb2 := bi_bd (b.getLsbD k)
  have hb3 := bi_bd (c.getLsbD k)
  refine J.seq ?_
  refine J.region ?_
  refine JL.ev _ rfl rfl (Ev.lss rfl rfl rfl) ?_
  refine JL.nil ?_
  refine JE.next ?_
  refine J.seq ?_
  refine J.cond _ rfl (fun ht21 => ?_) (fun ht21 => ?_)
  · try replace ht21 := of_decide_eq_true ht21
    refine J.skip ?_
    refine JE.next ?_
    refine J.seq ?_
    refine J.block ?_
    refine J.seq ?_
    refine J.region ?_
    refine JL.ev _ rfl rfl (Ev.move rfl) ?_
    refine JL.ev _ rfl rfl (Ev.assign rfl) ?_
    refine JL.nil ?_
    refine JE.next ?_
    refine J.block ?_
    refine J.seq ?_
    refine J.draw [(0, true), (1, true), (2, true), (3, true), (4, true), (5, true), (6, true), (7, true), (8, true), (9, true), (10, true), (11, true), (12, true), (13, true), (14, true), (15, true)] [] (by kernel_rfl) (by kernel_rfl) ?_
    refine JD.ev _ rfl rfl rfl (Ev.move rfl) ?_
    refine JD.ev _ rfl rfl rfl (Ev.move rfl) ?_
    refine JD.ev _ rfl rfl rfl (Ev.move rfl) ?_
    refine JD.ev _ rfl rfl rfl (Ev.indexAddrA rfl rfl Try.underlying65 (by kernel_rfl) (by omega) (by omega) (by first | exact idx0 _ | exact Nat.zero_add _)) ?_
    refine JD.ev _ rfl rfl rfl (Ev.loadA rfl Try.underlying3 rfl (by repeat (first | exact At.here | apply At.there)) (by omega)) ?_
    refine JD.ev _ rfl rfl rfl (Ev.move rfl) ?_
    refine JD.ev _ rfl rfl rfl (Ev.indexAddrA rfl rfl Try.underlying65 (by kernel_rfl) (by omega) (by omega) (by first | exact idx0 _ | exact Nat.zero_add _)) ?_
    refine JD.ev _ rfl rfl rfl (Ev.loadA rfl Try.underlying3 rfl (by repeat (first | exact At.here | apply At.there)) (by omega)) ?_
    refine JD.ev _ rfl rfl rfl (Ev.add rfl rfl (i64_in (by omega) (by omega))) ?_
    refine JD.ev _ rfl rfl rfl (Ev.move rfl) ?_
    refine JD.ev _ rfl rfl rfl (Ev.indexAddrA rfl rfl Try.underlying65 (by kernel_rfl) (by omega) (by omega) (by first | exact idx0 _ | exact Nat.zero_add _)) ?_
    refine JD.ev _ rfl rfl rfl (Ev.loadA rfl Try.underlying3 rfl (by repeat (first | exact At.here | apply At.there)) (by omega)) ?_
    refine JD.ev _ rfl rfl rfl (Ev.add rfl rfl (i64_in (by omega) (by omega))) ?_
    refine JD.ev _ rfl rfl rfl (Ev.gtr (c := mjB a b c k) rfl rfl rfl) ?_
    refine JD.ev _ rfl rfl rfl (Ev.pickT rfl rfl) ?_
    refine JD.ev _ rfl rfl rfl (Ev.assign rfl) ?_
    refine JD.tail ?_
    refine JT.nil (JE.np ?_)
    refine JE.next ?_
    refine J.cond _ rfl (fun ht23 => ?_) (fun ht23 => ?_)
    · refine J.region ?_
      refine JL.ev _ rfl rfl (Ev.move rfl) ?_
      refine JL.ev _ rfl rfl (Ev.indexAddrA rfl rfl Try.underlying65 (by kernel_rfl) (by omega) (by omega) (by first | exact idx0 _ | exact Nat.zero_add _)) ?_
      refine JL.eff0 (Eff.storeA rfl rfl rfl (by kernel_rfl) (by repeat (first | exact At.here | apply At.there)) (by omega)) rfl rfl (fun _ _ => ?_)
      refine JL.nil ?_
      refine JE.blockNormal ?_
      refine JE.blockNormal ?_
      refine JE.next ?_
      refine J.region ?_
      refine JL.ev _ rfl rfl (Ev.add rfl rfl (i64_in (by omega) (by omega))) ?_
      refine JL.ev _ rfl rfl (Ev.move rfl) ?_
      refine JL.nil ?_
      first
      | exact JE.back (k + 1) (by omega) (by omega) ⟨rfl, rfl, rfl, rfl, rfl, rfl, trivial⟩ (fun w s => by rw [← bitsTo_t (mjB a b c) k (.int .i64 1) (by rw [bitOf, ht23]; rfl)]; exact s)
      | exact JE.back (k + 1) (by omega) (by omega) ⟨rfl, rfl, rfl, rfl, rfl, rfl, trivial⟩ (fun w s => by rw [← bitsTo_f (mjB a b c) k ht23]; exact s)
    · refine J.seq ?_
      refine J.region ?_
      refine JL.ev _ rfl rfl (Ev.move rfl) ?_
      refine JL.ev _ rfl rfl (Ev.not rfl rfl) ?_
      refine JL.ev _ rfl rfl (Ev.move rfl) ?_
      refine JL.off rfl rfl ?_
      refine JL.off rfl rfl ?_
      refine JL.off rfl rfl ?_
      refine JL.off rfl rfl ?_
      refine JL.ev _ rfl rfl (Ev.pickF rfl rfl) ?_
      refine JL.ev _ rfl rfl (Ev.assign rfl) ?_
      refine JL.nil ?_
      refine JE.next ?_
      refine J.condF rfl (rfl) ?_
      refine J.seq ?_
      refine J.region ?_
      refine JL.ev _ rfl rfl (Ev.move rfl) ?_
      refine JL.ev _ rfl rfl (Ev.not rfl rfl) ?_
      refine JL.ev _ rfl rfl (Ev.assign rfl) ?_
      refine JL.nil ?_
      refine JE.next ?_
      refine J.condF rfl (rfl) ?_
      refine J.skip ?_
      refine JE.blockNormal ?_
      refine JE.blockNormal ?_
      refine JE.next ?_
      refine J.region ?_
      refine JL.ev _ rfl rfl (Ev.add rfl rfl (i64_in (by omega) (by omega))) ?_
      refine JL.ev _ rfl rfl (Ev.move rfl) ?_
      refine JL.nil ?_
      first
      | exact JE.back (k + 1) (by omega) (by omega) ⟨rfl, rfl, rfl, rfl, rfl, rfl, trivial⟩ (fun w s => by rw [← bitsTo_t (mjB a b c) k (.int .i64 1) (by rw [bitOf, ht23]; rfl)]; exact s)
      | exact JE.back (k + 1) (by omega) (by omega) ⟨rfl, rfl, rfl, rfl, rfl, rfl, trivial⟩ (fun w s => by rw [← bitsTo_f (mjB a b c) k ht23]; exact s)
  · try replace ht21 := of_decide_eq_false ht21
    refine J.exit ?_
    refine JE.thenExit ?_
    refine JE.thenExit ?_
    refine JE.blockHere ?_
    refine JE.next ?_
    refine J.seq ?_
    refine J.region ?_
    obtain rfl : k = 32 := by omega
    rw [bitsTo_all]
    refine JL.ev _ rfl rfl (Ev.loadAll rfl Try.underlying65 rfl (by repeat (first | exact At.here | apply At.there)) (by kernel_rfl)) ?_
    refine JL.eff (Eff.callP rfl (enters Try.func31 (by kernel_rfl) rfl) (word_calls _)) rfl rfl (fun _ _ => ?_)
    refine JL.ev _ rfl rfl (Ev.assign rfl) ?_
    refine JL.nil ?_
    refine JE.next ?_
    refine J.ret ?_
    exact JE.ret1 _ rfl rfl fun w' s => ⟨rfl, s.below⟩
theorem ch_calls (a b c : BitVec 32) (w : World) : Calls Try.prog 26 #[U a, U b, U c, .bool false] w (Pure1 w (U (chW a b c))) := by
  rw [← word_ch a b c]
  refine enter (args := [U a, U b, U c, .bool false]) 66 Try.func26 rfl rfl (by simp) ?_
  refine J.seq ?_
  refine J.region ?_
  refine JL.ev (U 0) rfl rfl (Ev.assign rfl) ?_
  refine JL.nil ?_
  refine JE.next ?_
  refine J.seq ?_
  refine J.region ?_
  refine JL.ev _ rfl rfl (Ev.move rfl) ?_
  refine JL.eff (Eff.callP rfl (enters Try.func30 (by kernel_rfl) rfl) (bits_calls _)) rfl rfl (fun _ _ => ?_)
  refine JL.ev _ rfl rfl (Ev.move rfl) ?_
  refine JL.eff (Eff.callP rfl (enters Try.func30 (by kernel_rfl) rfl) (bits_calls _)) rfl rfl (fun _ _ => ?_)
  refine JL.ev _ rfl rfl (Ev.move rfl) ?_
  refine JL.eff (Eff.callP rfl (enters Try.func30 (by kernel_rfl) rfl) (bits_calls _)) rfl rfl (fun _ _ => ?_)
  refine JL.eff (Eff.allocA 32 (fun _ => .int .i64 0) (by kernel_rfl)) rfl rfl (fun g9 _ => ?_)
  refine JL.eff (Eff.allocA 32 (fun _ => .int .i64 0) (by kernel_rfl)) rfl rfl (fun g10 _ => ?_)
  refine JL.eff (Eff.allocA 32 (fun _ => .int .i64 0) (by kernel_rfl)) rfl rfl (fun g11 _ => ?_)
  refine JL.eff0 (Eff.storeAll rfl rfl (by kernel_rfl) (fun _ => rfl) (by repeat (first | exact At.here | apply At.there))) rfl rfl (fun _ _ => ?_)
  refine JL.eff0 (Eff.storeAll rfl rfl (by kernel_rfl) (fun _ => rfl) (by repeat (first | exact At.here | apply At.there))) rfl rfl (fun _ _ => ?_)
  refine JL.eff0 (Eff.storeAll rfl rfl (by kernel_rfl) (fun _ => rfl) (by repeat (first | exact At.here | apply At.there))) rfl rfl (fun _ _ => ?_)
  refine JL.nil ?_
  refine JE.next ?_
  refine J.seq ?_
  refine J.region ?_
  refine JL.eff (Eff.allocA 32 (fun _ => .int .i64 0) (by kernel_rfl)) rfl rfl (fun g12 _ => ?_)
  refine JL.nil ?_
  refine JE.next ?_
  refine J.seq ?_
  refine J.seq ?_
  refine J.region ?_
  refine JL.ev _ rfl rfl (Ev.move rfl) ?_
  refine JL.nil ?_
  refine JE.next ?_
  refine J.block ?_
  refine J.loop (σ := Nat) (fun k => k ≤ 32) (fun k => [(3, .bool false), (9, .pointer (some ⟨g9, 0, none⟩)), (10, .pointer (some ⟨g10, 0, none⟩)), (11, .pointer (some ⟨g11, 0, none⟩)), (12, .pointer (some ⟨g12, 0, none⟩)), (20, .int .i64 k)]) (fun k => [cells g12 (arr 32 (bitsTo (chB a b c) k)) 65, cells g11 (arr 32 (bitOf c.getLsbD)) 65, cells g10 (arr 32 (bitOf b.getLsbD)) 65, cells g9 (arr 32 (bitOf a.getLsbD)) 65]) (fun k => 32 - k) 0 (by omega) ⟨rfl, rfl, rfl, rfl, rfl, rfl, trivial⟩ (fun w s => by rw [bitsTo_zero]; exact s) ?_
  intro k hk
  have hb1 := bi_bd (a.getLsbD k)
  refine J.seq ?_
  refine J.region ?_
  refine JL.ev _ rfl rfl (Ev.lss rfl rfl rfl) ?_
  refine JL.nil ?_
  refine JE.next ?_
  refine J.seq ?_
  refine J.cond _ rfl (fun ht21 => ?_) (fun ht21 => ?_)
  · try replace ht21 := of_decide_eq_true ht21
    refine J.skip ?_
    refine JE.next ?_
    refine J.seq ?_
    refine J.block ?_
    refine J.seq ?_
    refine J.region ?_
    refine JL.ev _ rfl rfl (Ev.move rfl) ?_
    refine JL.ev _ rfl rfl (Ev.assign rfl) ?_
    refine JL.nil ?_
    refine JE.next ?_
    refine J.block ?_
    refine J.seq ?_
    refine J.draw [(0, true), (1, true), (2, true), (3, true), (4, true), (5, true), (6, true), (7, true), (8, true), (9, true), (10, true), (11, true), (12, true), (13, true), (14, true), (15, true)] [] (by kernel_rfl) (by kernel_rfl) ?_
    refine JD.ev _ rfl rfl rfl (Ev.move rfl) ?_
    refine JD.ev _ rfl rfl rfl (Ev.move rfl) ?_
    refine JD.off rfl rfl rfl ?_
    refine JD.off rfl rfl rfl ?_
    refine JD.off rfl rfl rfl ?_
    refine JD.off rfl rfl rfl ?_
    refine JD.off rfl rfl rfl ?_
    refine JD.off rfl rfl rfl ?_
    refine JD.off rfl rfl rfl ?_
    refine JD.off rfl rfl rfl ?_
    refine JD.off rfl rfl rfl ?_
    refine JD.off rfl rfl rfl ?_
    refine JD.off rfl rfl rfl ?_
    refine JD.off rfl rfl rfl ?_
    refine JD.ev _ rfl rfl rfl (Ev.pickF rfl rfl) ?_
    refine JD.ev _ rfl rfl rfl (Ev.assign rfl) ?_
    refine JD.tail ?_
    refine JT.nil (JE.np ?_)
    refine JE.next ?_
    refine J.condF rfl (rfl) ?_
    refine J.seq ?_
    refine J.region ?_
    refine JL.ev _ rfl rfl (Ev.move rfl) ?_
    refine JL.ev _ rfl rfl (Ev.not rfl rfl) ?_
    refine JL.ev _ rfl rfl (Ev.move rfl) ?_
    refine JL.ev _ rfl rfl (Ev.move rfl) ?_
    refine JL.ev _ rfl rfl (Ev.indexAddrA rfl rfl Try.underlying65 (by kernel_rfl) (by omega) (by omega) (by first | exact idx0 _ | exact Nat.zero_add _)) ?_
    refine JL.ev _ rfl rfl (Ev.loadA rfl Try.underlying3 rfl (by repeat (first | exact At.here | apply At.there)) (by omega)) ?_
    refine JL.ev _ rfl rfl (Ev.eqI (c := a.getLsbD k) rfl rfl (by unfold bi; cases a.getLsbD k <;> rfl)) ?_
    refine JL.ev _ rfl rfl (Ev.pickT rfl rfl) ?_
    refine JL.ev _ rfl rfl (Ev.assign rfl) ?_
    refine JL.nil ?_
    refine JE.next ?_
    refine J.cond _ rfl (fun ht41 => ?_) (fun ht41 => ?_)
    · refine J.region ?_
      refine JL.ev _ rfl rfl (Ev.move rfl) ?_
      refine JL.ev _ rfl rfl (Ev.move rfl) ?_
      refine JL.ev _ rfl rfl (Ev.indexAddrA rfl rfl Try.underlying65 (by kernel_rfl) (by omega) (by omega) (by first | exact idx0 _ | exact Nat.zero_add _)) ?_
      refine JL.ev _ rfl rfl (Ev.loadA rfl Try.underlying3 rfl (by repeat (first | exact At.here | apply At.there)) (by omega)) ?_
      refine JL.ev _ rfl rfl (Ev.indexAddrA rfl rfl Try.underlying65 (by kernel_rfl) (by omega) (by omega) (by first | exact idx0 _ | exact Nat.zero_add _)) ?_
      refine JL.eff0 (Eff.storeA rfl rfl rfl (by kernel_rfl) (by repeat (first | exact At.here | apply At.there)) (by omega)) rfl rfl (fun _ _ => ?_)
      refine JL.nil ?_
      refine JE.blockNormal ?_
      refine JE.blockNormal ?_
      refine JE.next ?_
      refine J.region ?_
      refine JL.ev _ rfl rfl (Ev.add rfl rfl (i64_in (by omega) (by omega))) ?_
      refine JL.ev _ rfl rfl (Ev.move rfl) ?_
      refine JL.nil ?_
      exact JE.back (k + 1) (by omega) (by omega) ⟨rfl, rfl, rfl, rfl, rfl, rfl, trivial⟩ (fun w s => by rw [← bitsTo_t (chB a b c) k _ (by rw [bitOf, chB, ht41])]; exact s)
    · refine J.seq ?_
      refine J.region ?_
      refine JL.ev _ rfl rfl (Ev.move rfl) ?_
      refine JL.ev _ rfl rfl (Ev.not rfl rfl) ?_
      refine JL.ev _ rfl rfl (Ev.assign rfl) ?_
      refine JL.nil ?_
      refine JE.next ?_
      refine J.condT rfl (rfl) ?_
      refine J.region ?_
      refine JL.ev _ rfl rfl (Ev.move rfl) ?_
      refine JL.ev _ rfl rfl (Ev.move rfl) ?_
      refine JL.ev _ rfl rfl (Ev.indexAddrA rfl rfl Try.underlying65 (by kernel_rfl) (by omega) (by omega) (by first | exact idx0 _ | exact Nat.zero_add _)) ?_
      refine JL.ev _ rfl rfl (Ev.loadA rfl Try.underlying3 rfl (by repeat (first | exact At.here | apply At.there)) (by omega)) ?_
      refine JL.ev _ rfl rfl (Ev.indexAddrA rfl rfl Try.underlying65 (by kernel_rfl) (by omega) (by omega) (by first | exact idx0 _ | exact Nat.zero_add _)) ?_
      refine JL.eff0 (Eff.storeA rfl rfl rfl (by kernel_rfl) (by repeat (first | exact At.here | apply At.there)) (by omega)) rfl rfl (fun _ _ => ?_)
      refine JL.nil ?_
      refine JE.blockNormal ?_
      refine JE.blockNormal ?_
      refine JE.next ?_
      refine J.region ?_
      refine JL.ev _ rfl rfl (Ev.add rfl rfl (i64_in (by omega) (by omega))) ?_
      refine JL.ev _ rfl rfl (Ev.move rfl) ?_
      refine JL.nil ?_
      exact JE.back (k + 1) (by omega) (by omega) ⟨rfl, rfl, rfl, rfl, rfl, rfl, trivial⟩ (fun w s => by rw [← bitsTo_t (chB a b c) k _ (by rw [bitOf, chB, ht41])]; exact s)
  · try replace ht21 := of_decide_eq_false ht21
    refine J.exit ?_
    refine JE.thenExit ?_
    refine JE.thenExit ?_
    refine JE.blockHere ?_
    refine JE.next ?_
    refine J.seq ?_
    refine J.region ?_
    obtain rfl : k = 32 := by omega
    rw [bitsTo_all]
    refine JL.ev _ rfl rfl (Ev.loadAll rfl Try.underlying65 rfl (by repeat (first | exact At.here | apply At.there)) (by kernel_rfl)) ?_
    refine JL.eff (Eff.callP rfl (enters Try.func31 (by kernel_rfl) rfl) (word_calls _)) rfl rfl (fun _ _ => ?_)
    refine JL.ev _ rfl rfl (Ev.assign rfl) ?_
    refine JL.nil ?_
    refine JE.next ?_
    refine J.ret ?_
    exact JE.ret1 _ rfl rfl fun w' s => ⟨rfl, s.below⟩
end Go.Proofs.Ytimokikpnngikaa
