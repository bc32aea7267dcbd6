/- Ways through a dag, in plain words: of three, and step by step. No program in sight. -/
import Derived.Test.YtcohdfkdhdhegaaGreatDoorPbAA
import Derived.Test.YtcohdfkdhdhegaaGreatDoorPbAB
import Derived.Test.YtcohdfkdhdhegaaGreatDoorPbAC
import Derived.Test.YtcohdfkdhdhegaaGreatDoorPbAD
import Derived.Test.YtcohdfkdhdhegaaGreatDoorPbAE
import Derived.Test.YtcohdfkdhdhegaaGreatDoorPbAF
import Derived.Test.YtcohdfkdhdhegaaGreatDoorPbAG
import Derived.Test.YtcohdfkdhdhegaaGreatDoorPbAH
import Derived.Test.YtcohdfkdhdhegaaGreatDoorPbAI
import Derived.Test.YtcohdfkdhdhegaaGreatDoorPbAJ
import Derived.Test.YtcohdfkdhdhegaaGreatDoorPbAK
import Derived.Test.YtcohdfkdhdhegaaGreatDoorPbAL
import Derived.Test.YtcohdfkdhdhegaaGreatDoorPbAM
import Derived.Test.YtcohdfkdhdhegaaGreatDoorPbAN
import Derived.Test.YtcohdfkdhdhegaaGreatDoorPbAO
import Derived.Test.YtcohdfkdhdhegaaGreatDoorPbAP
import Derived.Test.YtcohdfkdhdhegaaGreatDoorPbAQ
import Derived.Test.YtcohdfkdhdhegaaGreatDoorPbAR
import Derived.Test.YtcohdfkdhdhegaaGreatDoorPbAS
import Derived.Test.YtcohdfkdhdhegaaGreatDoorPbAT
import Derived.Test.YtcohdfkdhdhegaaGreatDoorPbAU
import Derived.Test.YtcohdfkdhdhegaaGreatDoorPbAV
import Derived.Test.YtcohdfkdhdhegaaGreatDoorPbAW
import Derived.Test.YtcohdfkdhdhegaaGreatDoorPbAX
import Derived.Test.YtcohdfkdhdhegaaGreatDoorPbAY
import Derived.Test.YtcohdfkdhdhegaaGreatDoorPbAZ
import Derived.Test.YtcohdfkdhdhegaaGreatDoorPbBA
import Derived.Test.YtcohdfkdhdhegaaGreatDoorPbBB
import Derived.Test.YtcohdfkdhdhegaaGreatDoorPbBC
import Derived.Test.YtcohdfkdhdhegaaGreatDoorPbBD
import Derived.Test.YtcohdfkdhdhegaaGreatDoorPbBE
import Derived.Test.YtcohdfkdhdhegaaGreatDoorPbBF
import Derived.Test.YtcohdfkdhdhegaaGreatDoorPbBG
import Derived.Test.YtcohdfkdhdhegaaGreatDoorPbBH
import Derived.Test.YtcohdfkdhdhegaaGreatDoorPbBI
import Derived.Test.YtcohdfkdhdhegaaGreatDoorPbBJ
import Derived.Test.YtcohdfkdhdhegaaGreatDoorPbBK
import Derived.Test.YtcohdfkdhdhegaaGreatDoorPbBL
import Derived.Test.YtcohdfkdhdhegaaGreatDoorPbBN
namespace Go.Proofs.YtcohdfkdhdhegaaGreatDoor

section
variable {G : List Hdr}
theorem GoodG.chain_succ (g : GoodG G) : ∀ (i : Nat) (A T U : List ID), TipOf G A → (chainG G A)[i]? = some T → (chainG G A)[i + 1]? = some U → U = parG G T ∧ hgtG G U < hgtG G T := by
  intro i
  induction i with
  | zero =>
    intro A T U hA h1 h2
    rcases g.par hA with ⟨h0, -⟩ | ⟨hp, hl, -⟩
    · rw [g.chain_root hA h0] at h2; cases h2
    · rw [g.chain_cons hA hp] at h1 h2
      have h3 : A = T := by simpa using h1
      subst h3
      have h4 : (chainG G (parG G A))[0]? = some U := by simpa using h2
      have h5 : U = parG G A := by
        rcases g.par hp with ⟨h0, -⟩ | ⟨hp', -, -⟩
        · rw [g.chain_root hp h0] at h4; simpa using h4.symm
        · rw [g.chain_cons hp hp'] at h4; simpa using h4.symm
      exact ⟨h5, by rw [h5]; exact hl⟩
  | succ i ih =>
    intro A T U hA h1 h2
    rcases g.par hA with ⟨h0, -⟩ | ⟨hp, -, -⟩
    · rw [g.chain_root hA h0] at h1; cases h1
    · rw [g.chain_cons hA hp] at h1 h2
      exact ih (parG G A) T U hp (by simpa using h1) (by simpa using h2)
end
end Go.Proofs.YtcohdfkdhdhegaaGreatDoor
