/- What came in. -/
import Derived.Test.YtbbjonjhaoeidaaGreatDoorQTK
import Derived.Test.YtbbjonjhaoeidaaGreatDoorQT18
set_option linter.unusedVariables false
set_option linter.unusedSimpArgs false

