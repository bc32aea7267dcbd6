/- Ways through a dag, in plain words: of three, and step by step. No program in sight. -/
import Derived.Test.YtcohdfkdhdhegaaGreatDoorPbBD
namespace Go.Proofs.YtcohdfkdhdhegaaGreatDoor

section
variable {G : List Hdr}
theorem GoodG.comm_in (g : GoodG G) {A B F : List ID} (hA : TipOf G A) (hB : TipOf G B) (h1 : F ∈ chainG G A) (h2 : F ∈ chainG G B) : F ∈ chainG G (commG G A B) := by
  obtain ⟨c1, c2, c3⟩ := g.comm_mem hA hB
  have h4 := c3 F h1 h2
  obtain ⟨pre, hs⟩ := g.chain_tail A hA _ c1
  have hd := g.chain_down A hA
  rw [hs] at h1 hd
  rcases List.mem_append.1 h1 with h | h
  · exfalso
    have := (List.pairwise_append.1 hd).2.2 F h _ (g.chain_self (g.chain_tip A hA _ c1))
    omega
  · exact h
/-- Whichever two are asked first. -/
theorem GoodG.comm_three (g : GoodG G) {A B C : List ID} (hA : TipOf G A) (hB : TipOf G B) (hC : TipOf G C) : commG G (commG G A B) C = commG G A (commG G B C) := by
  obtain ⟨c1, c2, -⟩ := g.comm_mem hA hB
  obtain ⟨d1, d2, -⟩ := g.comm_mem hB hC
  have hM := g.chain_tip A hA _ c1
  have hN := g.chain_tip B hB _ d1
  obtain ⟨e1, e2, e3⟩ := g.comm_mem hA hN
  exact g.comm_eq hM hC (g.comm_in hA hB e1 (g.chain_trans hB d1 e2)) (g.chain_trans hC d2 e2) fun F h1 h2 => e3 F (g.chain_trans hA c1 h1) (g.comm_in hB hC (g.chain_trans hB c2 h1) h2)
end
end Go.Proofs.YtcohdfkdhdhegaaGreatDoor
