/- Contracts of skill: valid, body, CheckCall; glide.CheckBrooms. -/
import Derived.Test.YtjbgdpbeabakiaaC1
namespace Go.Proofs.Ytjbgdpbeabakiaa
open Go.RowKit
set_option linter.unusedVariables false
set_option linter.unusedSimpArgs false

theorem scene_one (b : Bod) : sceneOk [b] = (b.ok && b.fine) := by simp [sceneOk, sceneGo]
end Go.Proofs.Ytjbgdpbeabakiaa
