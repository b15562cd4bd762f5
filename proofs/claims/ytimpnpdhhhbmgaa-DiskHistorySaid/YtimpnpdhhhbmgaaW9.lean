/- Walk of perform. -/
import Derived.Test.YtimpnpdhhhbmgaaW8
namespace Go.Proofs.Ytimpnpdhhhbmgaa
open Go.RowKit
set_option linter.unusedVariables false
set_option linter.unusedSimpArgs false

set_option maxHeartbeats 2000000 in
theorem perform_any {v u : Value} {ss : List By} {ps : List Wr} {w : World} (hv : IsBs w v ss) (hu : IsWs w u ps) (hn : 0 < ss.length) (hs : ss.length ≤ 4096) (hl : ps.length ≤ 4096)
    (hok : ∀ k (h : k < ps.length), 0 ≤ ps[k].at_ ∧ ps[k].at_ < (ss.length : Int)) :
    Calls Try.prog 40 #[v, u] w fun e w' => ∃ x, e = .returned x ∧ OwnSs w' w.heap.size x (Dv.put ss ps) ∧ Below w.heap.size w w' := by
  have HV := Lib.hid hv
  have HU := Lib.hid hu
  obtain ⟨A2, c2, vs, rfl, _⟩ := id hu
  have HOK := Lib.hid hok
  have HN := Lib.hid (And.intro hn hs)
  have hp4 : (ps.length : Int) ≤ 4096 := by omega
  clear hv hu hok hn hs
  go_enter Try.func40, Try.ntmps40
  go_wp2_with (fail)
  refine (cloneS_any HV.out (by have := HN.out.2; omega)).mono ?_
  rintro e w1 ⟨x, rfl, ho, hb⟩
  obtain ⟨g, cap, rfl, hg1, hg2⟩ := ho.form HN.out.1
  have HO1 := Lib.hid ho
  have HB1 := Lib.hid hb
  clear ho hb
  obtain ⟨n, hnn⟩ : ∃ n, ss.length = n := ⟨_, rfl⟩
  rw [hnn] at HO1
  have HNN := Lib.hid hnn
  simp only [hnn]
  clear hnn
  go_wp2_with (fail)
  go_loopw [12] (fun i wr => ∃ k : Nat, i = .int .i64 k ∧ k ≤ ps.length ∧ Hid (OwnSs wr w.heap.size (.slice (some ⟨g, 0, none⟩) n cap) (Dv.put ss (ps.take k))) ∧ Hid (Below w.heap.size w wr) ∧ Hid (g < wr.heap.size)) (fun i _ => ps.length - (intOf i).toNat)
  case atStart => exact ⟨0, rfl, Nat.zero_le _, HO1, HB1, Lib.hid hg2⟩
  case round =>
    obtain ⟨k, rfl, hk, HO, HB, HG⟩ := hrel
    by_cases hlt2 : k < ps.length
    · obtain ⟨b, off, A', c', rfl, hbb, hc1, hc2, hc3⟩ := ws_at HU.out hlt2
      have h1 : wr.cell? ⟨b, off + k * 2, none⟩ = some (.int .i64 ps[k].at_) := by rw [(bcell HB.out).1 b _ hbb, hc1]
      have h2 : wr.cell? ⟨b, off + k * 2 + 1, none⟩ = some (.slice A' ps[k].data.length c') := by rw [(bcell HB.out).1 b _ hbb, hc2]
      have H3 := Lib.hid hc3
      have HS := Lib.hid (Dv.put_succ hlt2 ss)
      have hr := HOK.out k hlt2
      clear hc1 hc2 hc3
      generalize ps[k] = p at *
      obtain ⟨at0, data⟩ := p
      simp only at h1 h2 H3 HS hr
      obtain ⟨m, rfl⟩ : ∃ m : Nat, at0 = m := ⟨at0.toNat, by omega⟩
      have hmn : m < n := by have := HNN.out; omega
      have hpl : m < (Dv.put ss (ps.take k)).length := by rw [Dv.put_len]; omega
      obtain ⟨v5, hcc⟩ : ∃ v5, wr.cell? ⟨g, m, none⟩ = some v5 := by obtain ⟨A5, c5, hcc, _⟩ := HO.out.cell hpl; exact ⟨_, hcc⟩
      have hff := HO.out.frozen m
      have hgw := HG.out
      have HX := Lib.hid ((HO.out.set m (OffB.of H3.out HB.out (by intro g' h; injection h with h; omega))).below (al1 _ (.cells #[.int .i64 m, .slice A' data.length c'] 54)))
      have HBX := Lib.hid ((HB.out.setCell (p := ⟨g, m, none⟩) hg1 (.slice A' data.length c')).up (al1 _ (.cells #[.int .i64 m, .slice A' data.length c'] 54)))
      clear hr hpl
      go_wp2_with (fail)
      go_roundw
      case rel => exact ⟨k + 1, by go_num, by omega, by rw [HS.out]; exact HX, HBX, Lib.hid (by have := HG.out; simp [World.setCell]; omega)⟩
      case measure => first | omega | (simp [intOf]; done) | (simp [intOf]; omega)
    · obtain rfl : k = ps.length := by omega
      go_wp2_with (fail)
      go_ret
      exact ⟨_, rfl, by have := HO.out; rwa [List.take_length] at this, HB.out⟩
end Go.Proofs.Ytimpnpdhhhbmgaa
